/- SameExpr, sameAlt, sameDecl, SameDecls: they call each other. -/
import Derived.Test.YtfeghobfkgimfaaTreeS
namespace Go.Proofs.Ytfeghobfkgimfaa
set_option linter.unusedSimpArgs false
set_option linter.unusedVariables false
open Go.RowKit Go.Shelf

theorem TyC.sh {m : Mem} {d : Ty} {cs : List Value} (h : TyC m d cs) : ∃ (a b : Int) (s : ByteArray) (v : Value), cs = [.int .i64 a, .int .i64 b, .string s, v] := by
  obtain ⟨k, a, s, l⟩ := d
  obtain ⟨v, rfl, _⟩ := h.inv
  exact ⟨_, _, _, _, rfl⟩
theorem PtC.sh {m : Mem} {d : Pt} {cs : List Value} (h : PtC m d cs) : ∃ (a b : Int) (s : ByteArray) (n : Int) (v : Value), cs = [.int .i64 a, .int .i64 b, .string s, .int .i64 n, v] := by
  obtain ⟨k, a, s, n, l⟩ := d
  obtain ⟨v, rfl, _⟩ := h.inv
  exact ⟨_, _, _, _, _, rfl⟩
theorem ExC.sh {m : Mem} {d : Ex} {cs : List Value} (h : ExC m d cs) : ∃ (a b : Int) (s : ByteArray) (n : Int) (v1 v2 v3 v4 : Value), cs = [.int .i64 a, .int .i64 b, .string s, .int .i64 n, v1, v2, v3, v4] := by
  obtain ⟨k, a, s, n, l, p, q, d⟩ := d
  obtain ⟨v1, v2, v3, v4, rfl, _⟩ := h.inv
  exact ⟨_, _, _, _, _, _, _, _, rfl⟩

set_option maxRecDepth 100000 in
theorem sdl (v v' : Value) (r : Bool) (w : World) (h : Calls Try.prog 95 #[v, v', .func (.func 96) #[] #[]] w (RightV r w)) : Calls Try.prog 76 #[v, v'] w (RightV r w) := by
  have H := Lib.hid h
  clear h
  go_enter Try.func76, Try.ntmps76
  go_wp2_with fail
  refine H.out.mono ?_
  rintro e w2 ⟨rfl, hb2⟩
  have HB2 := Lib.hid hb2
  clear hb2
  go_wp2_with fail
  go_ret
  exact ⟨rfl, HB2.out⟩

set_option maxRecDepth 100000 in
set_option maxHeartbeats 4000000 in
theorem sameEx_ring (n : Nat) : (∀ (D E : Ex) (cs ds : List Value) (w : World), SizeOf.sizeOf D < n → ExC (mem w) D cs → ExC (mem w) E ds → Calls Try.prog 37 #[.agg cs.toArray, .agg ds.toArray] w (RightV (sameEx D E) w)) ∧
    (∀ (D E : Al) (cs ds : List Value) (w : World), SizeOf.sizeOf D < n → AlC (mem w) D cs → AlC (mem w) E ds → Calls Try.prog 75 #[.agg cs.toArray, .agg ds.toArray] w (RightV (sameAl D E) w)) ∧
    (∀ (D E : De) (cs ds : List Value) (w : World), SizeOf.sizeOf D < n → DeC (mem w) D cs → DeC (mem w) E ds → Calls Try.prog 96 #[.agg cs.toArray, .agg ds.toArray] w (RightV (sameDe D E) w)) := by
  induction n with
  | zero => exact ⟨fun D E cs ds w h => by omega, fun D E cs ds w h => by omega, fun D E cs ds w h => by omega⟩
  | succ n ih =>
    obtain ⟨ih1, ih2, ih3⟩ := ih
    refine ⟨fun D E cs ds w hn hD hE => ?_, fun D E cs ds w hn hD hE => ?_, fun D E cs ds w hn hD hE => ?_⟩
    · obtain ⟨k, a, s, m, l, p, q, d⟩ := D
      obtain ⟨k', a', s', m', l', p', q', d'⟩ := E
      obtain ⟨_, _, _, _, rfl, ⟨A1, c1, C1, rfl, hc1, hA1, hC1⟩, ⟨A2, c2, C2, rfl, hc2, hA2, hC2⟩, ⟨A3, c3, C3, rfl, hc3, hA3, hC3⟩, ⟨A4, c4, C4, rfl, hc4, hA4, hC4⟩⟩ := hD.inv
      obtain ⟨_, _, _, _, rfl, ⟨G1, d1, D1, rfl, hd1, hG1, hD1⟩, ⟨G2, d2, D2, rfl, hd2, hG2, hD2⟩, ⟨G3, d3, D3, rfl, hd3, hG3, hD3⟩, ⟨G4, d4, D4, rfl, hd4, hG4, hD4⟩⟩ := hE.inv
      simp at hn
      have hal1 := fun (W : World) (hb : Below w.heap.size w W) => alikeExpr C1 D1 A1 G1 l.length l'.length c1 d1 (fun i => sameEx (l.getD i default) (l'.getD i default)) W (le_of hc1) (hA1.mono (mem_below hb) (fun i hi => (hC1 i hi).len)) (hG1.mono (mem_below hb) (fun i hi => (hD1 i hi).len)) (fun i hi => (hC1 i hi).ok) (fun i hi => (hD1 i hi).ok)
        (fun i i1 i2 W' hb' => by
          rw [get_of l i i1, get_of l' i i2]
          have := List.sizeOf_lt_of_mem (List.getElem_mem i1)
          exact ih1 _ _ _ _ W' (by omega) ((hC1 i i1).mono (mem_below (bl_tr hb hb'))) ((hD1 i i2).mono (mem_below (bl_tr hb hb'))))
      rw [← sameExs_eqB l l' (fun i i1 i2 => by rw [get_of l i i1, get_of l' i i2])] at hal1
      have H1 := Lib.hid hal1
      clear hal1 hA1 hG1 hC1 hD1 hc1 hd1
      have hal2 := fun (W : World) (hb : Below w.heap.size w W) => alikePat C2 D2 A2 G2 p.length p'.length c2 d2 (fun i => samePt (p.getD i default) (p'.getD i default)) W (le_of hc2) (hA2.mono (mem_below hb) (fun i hi => (hC2 i hi).len)) (hG2.mono (mem_below hb) (fun i hi => (hD2 i hi).len)) (fun i hi => (hC2 i hi).ok) (fun i hi => (hD2 i hi).ok)
        (fun i i1 i2 W' hb' => by
          rw [get_of p i i1, get_of p' i i2]
          exact samePt_any _ _ _ _ _ W' (Nat.lt_succ_self _) ((hC2 i i1).mono (mem_below (bl_tr hb hb'))) ((hD2 i i2).mono (mem_below (bl_tr hb hb'))))
      rw [← samePts_eqB p p' (fun i i1 i2 => by rw [get_of p i i1, get_of p' i i2])] at hal2
      have H2 := Lib.hid hal2
      clear hal2 hA2 hG2 hC2 hD2 hc2 hd2
      have hal3 := fun (W : World) (hb : Below w.heap.size w W) => alikeAlt C3 D3 A3 G3 q.length q'.length c3 d3 (fun i => sameAl (q.getD i default) (q'.getD i default)) W (le_of hc3) (hA3.mono (mem_below hb) (fun i hi => (hC3 i hi).len)) (hG3.mono (mem_below hb) (fun i hi => (hD3 i hi).len)) (fun i hi => (hC3 i hi).ok) (fun i hi => (hD3 i hi).ok)
        (fun i i1 i2 W' hb' => by
          rw [get_of q i i1, get_of q' i i2]
          have := List.sizeOf_lt_of_mem (List.getElem_mem i1)
          exact ih2 _ _ _ _ W' (by omega) ((hC3 i i1).mono (mem_below (bl_tr hb hb'))) ((hD3 i i2).mono (mem_below (bl_tr hb hb'))))
      rw [← sameAls_eqB q q' (fun i i1 i2 => by rw [get_of q i i1, get_of q' i i2])] at hal3
      have H3 := Lib.hid hal3
      clear hal3 hA3 hG3 hC3 hD3 hc3 hd3
      have hal4 := fun (W : World) (hb : Below w.heap.size w W) => alikeDecl C4 D4 A4 G4 d.length d'.length c4 d4 (fun i => sameDe (d.getD i default) (d'.getD i default)) W (le_of hc4) (hA4.mono (mem_below hb) (fun i hi => (hC4 i hi).len)) (hG4.mono (mem_below hb) (fun i hi => (hD4 i hi).len)) (fun i hi => (hC4 i hi).ok) (fun i hi => (hD4 i hi).ok)
        (fun i i1 i2 W' hb' => by
          rw [get_of d i i1, get_of d' i i2]
          have := List.sizeOf_lt_of_mem (List.getElem_mem i1)
          exact ih3 _ _ _ _ W' (by omega) ((hC4 i i1).mono (mem_below (bl_tr hb hb'))) ((hD4 i i2).mono (mem_below (bl_tr hb hb'))))
      rw [← sameDes_eqB d d' (fun i i1 i2 => by rw [get_of d i i1, get_of d' i i2])] at hal4
      have H4 := Lib.hid (fun (W : World) (hb : Below w.heap.size w W) => sdl _ _ _ W (hal4 W hb))
      clear hal4 hA4 hG4 hC4 hD4 hc4 hd4
      clear hD hE ih1 ih2 ih3 hn
      obtain ⟨n_l, hn_l⟩ : ∃ x, x = l.length := ⟨_, rfl⟩
      obtain ⟨m_l, hm_l⟩ : ∃ x, x = l'.length := ⟨_, rfl⟩
      rw [← hn_l, ← hm_l] at H1 ⊢
      clear hn_l hm_l
      obtain ⟨n_p, hn_p⟩ : ∃ x, x = p.length := ⟨_, rfl⟩
      obtain ⟨m_p, hm_p⟩ : ∃ x, x = p'.length := ⟨_, rfl⟩
      rw [← hn_p, ← hm_p] at H2 ⊢
      clear hn_p hm_p
      obtain ⟨n_q, hn_q⟩ : ∃ x, x = q.length := ⟨_, rfl⟩
      obtain ⟨m_q, hm_q⟩ : ∃ x, x = q'.length := ⟨_, rfl⟩
      rw [← hn_q, ← hm_q] at H3 ⊢
      clear hn_q hm_q
      obtain ⟨n_d, hn_d⟩ : ∃ x, x = d.length := ⟨_, rfl⟩
      obtain ⟨m_d, hm_d⟩ : ∃ x, x = d'.length := ⟨_, rfl⟩
      rw [← hn_d, ← hm_d] at H4 ⊢
      clear hn_d hm_d
      rw [sameEx]
      by_cases ht0 : k = k'
      · have e0 : (k == k') = true := by simp [ht0]
        rw [e0]
        subst ht0
        clear e0
        by_cases ht1 : s.toList = s'.toList
        · have e1 : eqS s s' = true := by simp [eqS, ht1]
          have f1 : (s.toList == s'.toList) = true := by simp [ht1]
          rw [e1]
          clear e1
          by_cases ht2 : m = m'
          · have e2 : (m == m') = true := by simp [ht2]
            rw [e2]
            subst ht2
            clear e2
            go_enter Try.func37, Try.ntmps37
            go_wp2_with fail
            refine (H1.out _ (bl2 _ _ _)).mono ?_
            rintro e w2 ⟨rfl, hb⟩
            obtain ⟨hc0, hf0⟩ := bcell hb
            have hz0 : w.heap.size + 1 < w2.heap.size := by have := hb.size; (try simp at this); omega
            have hz0' : w.heap.size < w2.heap.size := by omega
            have B2 := Lib.hid (bl_tr (bl2 _ _ _) hb)
            clear hb hf0
            cases hr0 : sameExs l l' with
            | false =>
              have R0 := Lib.hid hr0
              clear hr0
              go_wp2_with fail
              go_ret
              exact ⟨by simp [R0.out], B2.out⟩
            | true =>
              have R0 := Lib.hid hr0
              clear hr0
              go_wp2_with fail
              refine (H2.out _ B2.out).mono ?_
              rintro e w3 ⟨rfl, hb⟩
              obtain ⟨hc1, hf1⟩ := bcell hb
              have hz1 : w.heap.size + 1 < w3.heap.size := by have := hb.size; (try simp at this); omega
              have hz1' : w.heap.size < w3.heap.size := by omega
              have B3 := Lib.hid (bl_tr B2.out hb)
              clear hb hf1
              cases hr1 : samePts p p' with
              | false =>
                have R1 := Lib.hid hr1
                clear hr1
                go_wp2_with fail
                go_ret
                exact ⟨by simp [R0.out, R1.out], B3.out⟩
              | true =>
                have R1 := Lib.hid hr1
                clear hr1
                go_wp2_with fail
                refine (H3.out _ B3.out).mono ?_
                rintro e w4 ⟨rfl, hb⟩
                obtain ⟨hc2, hf2⟩ := bcell hb
                have hz2 : w.heap.size + 1 < w4.heap.size := by have := hb.size; (try simp at this); omega
                have hz2' : w.heap.size < w4.heap.size := by omega
                have B4 := Lib.hid (bl_tr B3.out hb)
                clear hb hf2
                cases hr2 : sameAls q q' with
                | false =>
                  have R2 := Lib.hid hr2
                  clear hr2
                  go_wp2_with fail
                  go_ret
                  exact ⟨by simp [R0.out, R1.out, R2.out], B4.out⟩
                | true =>
                  have R2 := Lib.hid hr2
                  clear hr2
                  go_wp2_with fail
                  refine (H4.out _ B4.out).mono ?_
                  rintro e w5 ⟨rfl, hb⟩
                  obtain ⟨hc3, hf3⟩ := bcell hb
                  have hz3 : w.heap.size + 1 < w5.heap.size := by have := hb.size; (try simp at this); omega
                  have hz3' : w.heap.size < w5.heap.size := by omega
                  have B5 := Lib.hid (bl_tr B4.out hb)
                  clear hb hf3
                  go_wp2_with fail
                  go_ret
                  exact ⟨by simp [R0.out, R1.out, R2.out], B5.out⟩
          · have e2 : (m == m') = false := by simp [ht2]
            rw [e2]
            go_enter Try.func37, Try.ntmps37
            go_wp2_with fail
            go_ret
            exact ⟨by simp, bl2 _ _ _⟩
        · have e1 : eqS s s' = false := by simp [eqS, ht1]
          have f1 : (s.toList == s'.toList) = false := by simpa using ht1
          rw [e1]
          clear e1
          go_enter Try.func37, Try.ntmps37
          go_wp2_with fail
          go_ret
          exact ⟨by simp, bl2 _ _ _⟩
      · have e0 : (k == k') = false := by simp [ht0]
        rw [e0]
        go_enter Try.func37, Try.ntmps37
        go_wp2_with fail
        go_ret
        exact ⟨by simp, bl2 _ _ _⟩
    · obtain ⟨p, b⟩ := D
      obtain ⟨p', b'⟩ := E
      obtain ⟨cp, cb, rfl, hp, hb⟩ := hD.inv
      obtain ⟨dp, db, rfl, hp', hb'⟩ := hE.inv
      simp at hn
      have h1 := fun (W : World) (hw : Below w.heap.size w W) => samePt_any _ p p' cp dp W (Nat.lt_succ_self _) (hp.mono (mem_below hw)) (hp'.mono (mem_below hw))
      have h2 := fun (W : World) (hw : Below w.heap.size w W) => ih1 b b' cb db W (by omega) (hb.mono (mem_below hw)) (hb'.mono (mem_below hw))
      obtain ⟨p0, p1, p2, p3, p4, rfl⟩ := hp.sh
      obtain ⟨q0, q1, q2, q3, q4, rfl⟩ := hp'.sh
      obtain ⟨b0, b1, b2, b3, b4, b5, b6, b7, rfl⟩ := hb.sh
      obtain ⟨c0, c1, c2, c3, c4, c5, c6, c7, rfl⟩ := hb'.sh
      have H1 := Lib.hid h1; have H2 := Lib.hid h2
      clear h1 h2 hp hp' hb hb' hD hE ih1 ih2 ih3 hn
      simp only [List.cons_append, List.nil_append]
      rw [sameAl]
      go_enter Try.func75, Try.ntmps75
      go_wp2_with fail
      refine (H1.out _ (bl2 _ _ _)).mono ?_
      rintro e w2 ⟨rfl, hb⟩
      obtain ⟨hc0, hf0⟩ := bcell hb
      have hz0 : w.heap.size + 1 < w2.heap.size := by have := hb.size; (try simp at this); omega
      have hz0' : w.heap.size < w2.heap.size := by omega
      have B2 := Lib.hid (bl_tr (bl2 _ _ _) hb)
      clear hb hf0
      cases hr0 : samePt p p' with
      | false =>
        have R0 := Lib.hid hr0
        clear hr0
        go_wp2_with fail
        go_ret
        exact ⟨by simp [R0.out], B2.out⟩
      | true =>
        have R0 := Lib.hid hr0
        clear hr0
        go_wp2_with fail
        refine (H2.out _ B2.out).mono ?_
        rintro e w3 ⟨rfl, hb⟩
        obtain ⟨hc1, hf1⟩ := bcell hb
        have hz1 : w.heap.size + 1 < w3.heap.size := by have := hb.size; (try simp at this); omega
        have hz1' : w.heap.size < w3.heap.size := by omega
        have B3 := Lib.hid (bl_tr B2.out hb)
        clear hb hf1
        go_wp2_with fail
        go_ret
        exact ⟨by simp [R0.out], B3.out⟩
    · obtain ⟨k, a, s, vars, cons, ty, pats, body⟩ := D
      obtain ⟨k', a', s', vars', cons', ty', pats', body'⟩ := E
      obtain ⟨vv, _, _, ct, cb, rfl, hv, hvl, ⟨A2, c2, C2, rfl, hc2, hA2, hC2⟩, ht, ⟨A4, c4, C4, rfl, hc4, hA4, hC4⟩, hb⟩ := hD.inv
      obtain ⟨vv', _, _, ct', cb', rfl, hv', hvl', ⟨G2, d2, D2, rfl, hd2, hG2, hD2⟩, ht', ⟨G4, d4, D4, rfl, hd4, hG4, hD4⟩, hb'⟩ := hE.inv
      simp at hn
      have h1 := fun (W : World) (hw : Below w.heap.size w W) => eqStrs vars vars' vv vv' W (hv.mono (mem_below hw)) (hv'.mono (mem_below hw))
      have hal2 := fun (W : World) (hb : Below w.heap.size w W) => alikeCons C2 D2 A2 G2 cons.length cons'.length c2 d2 (fun i => sameCo (cons.getD i default) (cons'.getD i default)) W (le_of hc2) (hA2.mono (mem_below hb) (fun i hi => (hC2 i hi).len)) (hG2.mono (mem_below hb) (fun i hi => (hD2 i hi).len)) (fun i hi => (hC2 i hi).ok) (fun i hi => (hD2 i hi).ok)
        (fun i i1 i2 W' hb' => by
          rw [get_of cons i i1, get_of cons' i i2]
          exact sameCo_any _ _ _ _ W'  ((hC2 i i1).mono (mem_below (bl_tr hb hb'))) ((hD2 i i2).mono (mem_below (bl_tr hb hb'))))
      rw [← sameCos_eqB cons cons' (fun i i1 i2 => by rw [get_of cons i i1, get_of cons' i i2])] at hal2
      have H2 := Lib.hid hal2
      clear hal2 hA2 hG2 hC2 hD2 hc2 hd2
      have h3 := fun (W : World) (hw : Below w.heap.size w W) => sameTy_any _ ty ty' ct ct' W (Nat.lt_succ_self _) (ht.mono (mem_below hw)) (ht'.mono (mem_below hw))
      have hal4 := fun (W : World) (hb : Below w.heap.size w W) => alikePat C4 D4 A4 G4 pats.length pats'.length c4 d4 (fun i => samePt (pats.getD i default) (pats'.getD i default)) W (le_of hc4) (hA4.mono (mem_below hb) (fun i hi => (hC4 i hi).len)) (hG4.mono (mem_below hb) (fun i hi => (hD4 i hi).len)) (fun i hi => (hC4 i hi).ok) (fun i hi => (hD4 i hi).ok)
        (fun i i1 i2 W' hb' => by
          rw [get_of pats i i1, get_of pats' i i2]
          exact samePt_any _ _ _ _ _ W' (Nat.lt_succ_self _) ((hC4 i i1).mono (mem_below (bl_tr hb hb'))) ((hD4 i i2).mono (mem_below (bl_tr hb hb'))))
      rw [← samePts_eqB pats pats' (fun i i1 i2 => by rw [get_of pats i i1, get_of pats' i i2])] at hal4
      have H4 := Lib.hid hal4
      clear hal4 hA4 hG4 hC4 hD4 hc4 hd4
      have h5 := fun (W : World) (hw : Below w.heap.size w W) => ih1 body body' cb cb' W (by omega) (hb.mono (mem_below hw)) (hb'.mono (mem_below hw))
      obtain ⟨p0, p1, p2, p3, rfl⟩ := ht.sh
      obtain ⟨q0, q1, q2, q3, rfl⟩ := ht'.sh
      obtain ⟨b0, b1, b2, b3, b4, b5, b6, b7, rfl⟩ := hb.sh
      obtain ⟨g0, g1, g2, g3, g4, g5, g6, g7, rfl⟩ := hb'.sh
      have H1 := Lib.hid h1; have H3 := Lib.hid h3; have H5 := Lib.hid h5
      clear h1 h3 h5 hv hv' hvl hvl' ht ht' hb hb' hD hE ih1 ih2 ih3 hn
      obtain ⟨n_c, hn_c⟩ : ∃ x, x = cons.length := ⟨_, rfl⟩
      obtain ⟨m_c, hm_c⟩ : ∃ x, x = cons'.length := ⟨_, rfl⟩
      rw [← hn_c, ← hm_c] at H2 ⊢
      clear hn_c hm_c
      obtain ⟨n_p, hn_p⟩ : ∃ x, x = pats.length := ⟨_, rfl⟩
      obtain ⟨m_p, hm_p⟩ : ∃ x, x = pats'.length := ⟨_, rfl⟩
      rw [← hn_p, ← hm_p] at H4 ⊢
      clear hn_p hm_p
      simp only [List.cons_append, List.nil_append]
      rw [sameDe]
      by_cases ht0 : k = k'
      · have e0 : (k == k') = true := by simp [ht0]
        rw [e0]
        subst ht0
        clear e0
        by_cases ht1 : s.toList = s'.toList
        · have e1 : eqS s s' = true := by simp [eqS, ht1]
          have f1 : (s.toList == s'.toList) = true := by simp [ht1]
          rw [e1]
          clear e1
          go_enter Try.func96, Try.ntmps96
          go_wp2_with fail
          refine (H1.out _ (bl2 _ _ _)).mono ?_
          rintro e w2 ⟨rfl, hb⟩
          obtain ⟨hc0, hf0⟩ := bcell hb
          have hz0 : w.heap.size + 1 < w2.heap.size := by have := hb.size; (try simp at this); omega
          have hz0' : w.heap.size < w2.heap.size := by omega
          have B2 := Lib.hid (bl_tr (bl2 _ _ _) hb)
          clear hb hf0
          cases hr0 : sameStrs vars vars' with
          | false =>
            have R0 := Lib.hid hr0
            clear hr0
            go_wp2_with fail
            go_ret
            exact ⟨by simp [R0.out], B2.out⟩
          | true =>
            have R0 := Lib.hid hr0
            clear hr0
            go_wp2_with fail
            refine (H2.out _ B2.out).mono ?_
            rintro e w3 ⟨rfl, hb⟩
            obtain ⟨hc1, hf1⟩ := bcell hb
            have hz1 : w.heap.size + 1 < w3.heap.size := by have := hb.size; (try simp at this); omega
            have hz1' : w.heap.size < w3.heap.size := by omega
            have B3 := Lib.hid (bl_tr B2.out hb)
            clear hb hf1
            cases hr1 : sameCos cons cons' with
            | false =>
              have R1 := Lib.hid hr1
              clear hr1
              go_wp2_with fail
              go_ret
              exact ⟨by simp [R0.out, R1.out], B3.out⟩
            | true =>
              have R1 := Lib.hid hr1
              clear hr1
              go_wp2_with fail
              refine (H3.out _ B3.out).mono ?_
              rintro e w4 ⟨rfl, hb⟩
              obtain ⟨hc2, hf2⟩ := bcell hb
              have hz2 : w.heap.size + 1 < w4.heap.size := by have := hb.size; (try simp at this); omega
              have hz2' : w.heap.size < w4.heap.size := by omega
              have B4 := Lib.hid (bl_tr B3.out hb)
              clear hb hf2
              cases hr2 : sameTy ty ty' with
              | false =>
                have R2 := Lib.hid hr2
                clear hr2
                go_wp2_with fail
                go_ret
                exact ⟨by simp [R0.out, R1.out, R2.out], B4.out⟩
              | true =>
                have R2 := Lib.hid hr2
                clear hr2
                go_wp2_with fail
                refine (H4.out _ B4.out).mono ?_
                rintro e w5 ⟨rfl, hb⟩
                obtain ⟨hc3, hf3⟩ := bcell hb
                have hz3 : w.heap.size + 1 < w5.heap.size := by have := hb.size; (try simp at this); omega
                have hz3' : w.heap.size < w5.heap.size := by omega
                have B5 := Lib.hid (bl_tr B4.out hb)
                clear hb hf3
                cases hr3 : samePts pats pats' with
                | false =>
                  have R3 := Lib.hid hr3
                  clear hr3
                  go_wp2_with fail
                  go_ret
                  exact ⟨by simp [R0.out, R1.out, R2.out, R3.out], B5.out⟩
                | true =>
                  have R3 := Lib.hid hr3
                  clear hr3
                  go_wp2_with fail
                  refine (H5.out _ B5.out).mono ?_
                  rintro e w6 ⟨rfl, hb⟩
                  obtain ⟨hc4, hf4⟩ := bcell hb
                  have hz4 : w.heap.size + 1 < w6.heap.size := by have := hb.size; (try simp at this); omega
                  have hz4' : w.heap.size < w6.heap.size := by omega
                  have B6 := Lib.hid (bl_tr B5.out hb)
                  clear hb hf4
                  go_wp2_with fail
                  go_ret
                  exact ⟨by simp [R0.out, R1.out, R2.out, R3.out], B6.out⟩
        · have e1 : eqS s s' = false := by simp [eqS, ht1]
          have f1 : (s.toList == s'.toList) = false := by simpa using ht1
          rw [e1]
          clear e1
          go_enter Try.func96, Try.ntmps96
          go_wp2_with fail
          go_ret
          exact ⟨by simp, bl2 _ _ _⟩
      · have e0 : (k == k') = false := by simp [ht0]
        rw [e0]
        go_enter Try.func96, Try.ntmps96
        go_wp2_with fail
        go_ret
        exact ⟨by simp, bl2 _ _ _⟩

theorem sameEx_any (D E : Ex) (cs ds : List Value) (w : World) (hD : ExC (mem w) D cs) (hE : ExC (mem w) E ds) : Calls Try.prog 37 #[.agg cs.toArray, .agg ds.toArray] w (RightV (sameEx D E) w) :=
  (sameEx_ring _).1 D E cs ds w (Nat.lt_succ_self _) hD hE
theorem sameDes_any (l l' : List De) (v v' : Value) (w : World) (h : DesV (mem w) l v) (h' : DesV (mem w) l' v') : Calls Try.prog 76 #[v, v'] w (RightV (sameDes l l') w) := by
  obtain ⟨A1, c1, C1, rfl, hc1, hA1, hC1⟩ := h
  obtain ⟨G1, d1, D1, rfl, hd1, hG1, hD1⟩ := h'
  rw [sameDes_eqB l l' (R := fun i => sameDe (l.getD i default) (l'.getD i default)) (fun i i1 i2 => by rw [get_of l i i1, get_of l' i i2])]
  refine sdl _ _ _ w (alikeDecl C1 D1 A1 G1 l.length l'.length c1 d1 _ w (le_of hc1) hA1 hG1 (fun i hi => (hC1 i hi).ok) (fun i hi => (hD1 i hi).ok) (fun i i1 i2 W' hb' => ?_))
  rw [get_of l i i1, get_of l' i i2]
  exact (sameEx_ring _).2.2 _ _ _ _ W' (Nat.lt_succ_self _) ((hC1 i i1).mono (mem_below hb')) ((hD1 i i2).mono (mem_below hb'))
end Go.Proofs.Ytfeghobfkgimfaa
