/- SameType, SamePat, walked. -/
import Derived.Test.YtfeghobfkgimfaaTreeQ
namespace Go.Proofs.Ytfeghobfkgimfaa
set_option linter.unusedSimpArgs false
set_option linter.unusedVariables false
open Go.RowKit Go.Shelf

theorem get_of {α : Type} [Inhabited α] (l : List α) (i : Nat) (h : i < l.length) : l.getD i default = l[i] := by simp [List.getD_eq_getElem?_getD, h]
instance : Inhabited Ty := ⟨.mk 0 0 ByteArray.empty []⟩
instance : Inhabited Pt := ⟨.mk 0 0 ByteArray.empty 0 []⟩
instance : Inhabited Co := ⟨⟨0, ByteArray.empty, []⟩⟩
instance : Inhabited Ex := ⟨.mk 0 0 ByteArray.empty 0 [] [] [] []⟩
instance : Inhabited Al := ⟨.mk default default⟩
instance : Inhabited De := ⟨.mk 0 0 ByteArray.empty [] [] default [] default⟩
theorem le_of {a b c : Nat} (h : a ≤ b ∧ b ≤ c) : a ≤ c := Nat.le_trans h.1 h.2

set_option maxRecDepth 100000 in
theorem sameTy_any (n : Nat) : ∀ (D E : Ty) (cs ds : List Value) (w : World), SizeOf.sizeOf D < n → TyC (mem w) D cs → TyC (mem w) E ds →
    Calls Try.prog 118 #[.agg cs.toArray, .agg ds.toArray] w (RightV (sameTy D E) w) := by
  induction n with
  | zero => intro D E cs ds w h; omega
  | succ n ih =>
    intro D E cs ds w hn hD hE
    obtain ⟨k, a, s, l⟩ := D
    obtain ⟨k', a', s', l'⟩ := E
    obtain ⟨v, rfl, A, c, C, rfl, hc, hA, hC⟩ := hD.inv
    obtain ⟨v', rfl, A', c', C', rfl, hc', hA', hC'⟩ := hE.inv
    simp at hn
    have hal := fun (W : World) (hb : Below w.heap.size w W) => alikeType C C' A A' l.length l'.length c c' (fun i => sameTy (l.getD i default) (l'.getD i default)) W (le_of hc) (hA.mono (mem_below hb) (fun i hi => (hC i hi).len)) (hA'.mono (mem_below hb) (fun i hi => (hC' i hi).len)) (fun i hi => (hC i hi).ok) (fun i hi => (hC' i hi).ok)
      (fun i i1 i2 W' hb' => by
        rw [get_of l i i1, get_of l' i i2]
        have := List.sizeOf_lt_of_mem (List.getElem_mem i1)
        exact ih _ _ _ _ W' (by omega) ((hC i i1).mono (mem_below (bl_tr hb hb'))) ((hC' i i2).mono (mem_below (bl_tr hb hb'))))
    have hres : sameTys l l' = eqB l.length l'.length (fun i => sameTy (l.getD i default) (l'.getD i default)) := sameTys_eqB l l' (fun i i1 i2 => by rw [get_of l i i1, get_of l' i i2])
    rw [← hres] at hal
    have HA := Lib.hid hal
    clear hal hres hA hA' hC hC' hc hc' hD hE ih
    obtain ⟨nl, hnl⟩ : ∃ x, x = l.length := ⟨_, rfl⟩
    obtain ⟨nl', hnl'⟩ : ∃ x, x = l'.length := ⟨_, rfl⟩
    rw [← hnl, ← hnl'] at HA ⊢
    clear hnl hnl'
    rw [sameTy]
    by_cases hk : k = k'
    · by_cases hs : s.toList = s'.toList
      · have e1 : (k == k') = true := by simp [hk]
        have e2 : eqS s s' = true := by simp [eqS, hs]
        rw [e1, e2]
        subst hk
        clear e1 e2
        go_enter Try.func118, Try.ntmps118
        go_wp2_with fail
        refine (HA.out _ (bl2 _ _ _)).mono ?_
        rintro e w2 ⟨rfl, hb2⟩
        have HB2 := Lib.hid (bl_tr (bl2 _ _ _) hb2)
        clear hb2
        go_wp2_with fail
        go_ret
        exact ⟨by simp, HB2.out⟩
      · have e2 : eqS s s' = false := by simp [eqS, hs]
        have e1 : (k == k') = true := by simp [hk]
        have hs' : (s.toList == s'.toList) = false := by simpa using hs
        rw [e1, e2]
        subst hk
        clear e1 e2
        go_enter Try.func118, Try.ntmps118
        go_wp2_with fail
        go_ret
        exact ⟨by simp, bl2 _ _ _⟩
    · have e1 : (k == k') = false := by simp [hk]
      rw [e1]
      go_enter Try.func118, Try.ntmps118
      go_wp2_with fail
      go_ret
      exact ⟨by simp, bl2 _ _ _⟩

set_option maxRecDepth 100000 in
theorem samePt_any (n : Nat) : ∀ (D E : Pt) (cs ds : List Value) (w : World), SizeOf.sizeOf D < n → PtC (mem w) D cs → PtC (mem w) E ds →
    Calls Try.prog 73 #[.agg cs.toArray, .agg ds.toArray] w (RightV (samePt D E) w) := by
  induction n with
  | zero => intro D E cs ds w h; omega
  | succ n ih =>
    intro D E cs ds w hn hD hE
    obtain ⟨k, a, s, m, l⟩ := D
    obtain ⟨k', a', s', m', l'⟩ := E
    obtain ⟨v, rfl, A1, c1, C1, rfl, hc1, hA1, hC1⟩ := hD.inv
    obtain ⟨v', rfl, G1, d1, D1, rfl, hd1, hG1, hD1⟩ := hE.inv
    simp at hn
    have hal1 := fun (W : World) (hb : Below w.heap.size w W) => alikePat C1 D1 A1 G1 l.length l'.length c1 d1 (fun i => samePt (l.getD i default) (l'.getD i default)) W (le_of hc1) (hA1.mono (mem_below hb) (fun i hi => (hC1 i hi).len)) (hG1.mono (mem_below hb) (fun i hi => (hD1 i hi).len)) (fun i hi => (hC1 i hi).ok) (fun i hi => (hD1 i hi).ok)
      (fun i i1 i2 W' hb' => by
        rw [get_of l i i1, get_of l' i i2]
        have := List.sizeOf_lt_of_mem (List.getElem_mem i1)
        exact ih _ _ _ _ W' (by omega) ((hC1 i i1).mono (mem_below (bl_tr hb hb'))) ((hD1 i i2).mono (mem_below (bl_tr hb hb'))))
    rw [← samePts_eqB l l' (fun i i1 i2 => by rw [get_of l i i1, get_of l' i i2])] at hal1
    have H1 := Lib.hid hal1
    clear hal1 hA1 hG1 hC1 hD1 hc1 hd1
    clear hD hE ih hn
    obtain ⟨nl, hnl⟩ : ∃ x, x = l.length := ⟨_, rfl⟩
    obtain ⟨nl', hnl'⟩ : ∃ x, x = l'.length := ⟨_, rfl⟩
    rw [← hnl, ← hnl'] at H1 ⊢
    clear hnl hnl'
    rw [samePt]
    by_cases ht0 : k = k'
    · have e0 : (k == k') = true := by simp [ht0]
      rw [e0]
      subst ht0
      clear e0
      by_cases ht1 : s.toList = s'.toList
      · have e1 : eqS s s' = true := by simp [eqS, ht1]
        have f1 : (s.toList == s'.toList) = true := by simp [ht1]
        rw [e1]
        clear e1
        by_cases ht2 : m = m'
        · have e2 : (m == m') = true := by simp [ht2]
          rw [e2]
          subst ht2
          clear e2
          go_enter Try.func73, Try.ntmps73
          go_wp2_with fail
          refine (H1.out _ (bl2 _ _ _)).mono ?_
          rintro e w2 ⟨rfl, hb⟩
          obtain ⟨hc0, hf0⟩ := bcell hb
          have hz0 : w.heap.size + 1 < w2.heap.size := by have := hb.size; (try simp at this); omega
          have hz0' : w.heap.size < w2.heap.size := by omega
          have B2 := Lib.hid (bl_tr (bl2 _ _ _) hb)
          clear hb hf0
          go_wp2_with fail
          go_ret
          exact ⟨by simp, B2.out⟩
        · have e2 : (m == m') = false := by simp [ht2]
          rw [e2]
          go_enter Try.func73, Try.ntmps73
          go_wp2_with fail
          go_ret
          exact ⟨by simp, bl2 _ _ _⟩
      · have e1 : eqS s s' = false := by simp [eqS, ht1]
        have f1 : (s.toList == s'.toList) = false := by simpa using ht1
        rw [e1]
        clear e1
        go_enter Try.func73, Try.ntmps73
        go_wp2_with fail
        go_ret
        exact ⟨by simp, bl2 _ _ _⟩
    · have e0 : (k == k') = false := by simp [ht0]
      rw [e0]
      go_enter Try.func73, Try.ntmps73
      go_wp2_with fail
      go_ret
      exact ⟨by simp, bl2 _ _ _⟩

set_option maxRecDepth 100000 in
theorem sameCo_any (D E : Co) (cs ds : List Value) (w : World) (hD : CoC (mem w) D cs) (hE : CoC (mem w) E ds) :
    Calls Try.prog 117 #[.agg cs.toArray, .agg ds.toArray] w (RightV (sameCo D E) w) := by
    obtain ⟨a, s, l⟩ := D
    obtain ⟨a', s', l'⟩ := E
    obtain ⟨v, rfl, A1, c1, C1, rfl, hc1, hA1, hC1⟩ := hD
    obtain ⟨v', rfl, G1, d1, D1, rfl, hd1, hG1, hD1⟩ := hE
    simp only at hc1 hA1 hC1 hd1 hG1 hD1 ⊢
    have hal1 := fun (W : World) (hb : Below w.heap.size w W) => alikeType C1 D1 A1 G1 l.length l'.length c1 d1 (fun i => sameTy (l.getD i default) (l'.getD i default)) W (le_of hc1) (hA1.mono (mem_below hb) (fun i hi => (hC1 i hi).len)) (hG1.mono (mem_below hb) (fun i hi => (hD1 i hi).len)) (fun i hi => (hC1 i hi).ok) (fun i hi => (hD1 i hi).ok)
      (fun i i1 i2 W' hb' => by
        rw [get_of l i i1, get_of l' i i2]
        exact sameTy_any _ _ _ _ _ W' (Nat.lt_succ_self _) ((hC1 i i1).mono (mem_below (bl_tr hb hb'))) ((hD1 i i2).mono (mem_below (bl_tr hb hb'))))
    rw [← sameTys_eqB l l' (fun i i1 i2 => by rw [get_of l i i1, get_of l' i i2])] at hal1
    have H1 := Lib.hid hal1
    clear hal1 hA1 hG1 hC1 hD1 hc1 hd1
    obtain ⟨nl, hnl⟩ : ∃ x, x = l.length := ⟨_, rfl⟩
    obtain ⟨nl', hnl'⟩ : ∃ x, x = l'.length := ⟨_, rfl⟩
    rw [← hnl, ← hnl'] at H1 ⊢
    clear hnl hnl'
    rw [sameCo]
    by_cases ht0 : s.toList = s'.toList
    · have e0 : eqS s s' = true := by simp [eqS, ht0]
      have f0 : (s.toList == s'.toList) = true := by simp [ht0]
      rw [e0]
      clear e0
      go_enter Try.func117, Try.ntmps117
      go_wp2_with fail
      refine (H1.out _ (bl2 _ _ _)).mono ?_
      rintro e w2 ⟨rfl, hb⟩
      obtain ⟨hc0, hf0⟩ := bcell hb
      have hz0 : w.heap.size + 1 < w2.heap.size := by have := hb.size; (try simp at this); omega
      have hz0' : w.heap.size < w2.heap.size := by omega
      have B2 := Lib.hid (bl_tr (bl2 _ _ _) hb)
      clear hb hf0
      go_wp2_with fail
      go_ret
      exact ⟨by simp, B2.out⟩
    · have e0 : eqS s s' = false := by simp [eqS, ht0]
      have f0 : (s.toList == s'.toList) = false := by simpa using ht0
      rw [e0]
      clear e0
      go_enter Try.func117, Try.ntmps117
      go_wp2_with fail
      go_ret
      exact ⟨by simp, bl2 _ _ _⟩

set_option maxRecDepth 100000 in
theorem eqStrs (l l' : List ByteArray) (v v' : Value) (w : World) (hv : StrsV (mem w) l v) (hv' : StrsV (mem w) l' v') :
    Calls Try.prog 115 #[v, v'] w (RightV (sameStrs l l') w) := by
  obtain ⟨A1, c1, rfl, hc1, hA1⟩ := hv
  obtain ⟨A2, c2, rfl, hc2, hA2⟩ := hv'
  rw [sameStrs_eqB l l' (R := fun i => eqS (l.getD i ByteArray.empty) (l'.getD i ByteArray.empty)) (fun i i1 i2 => by simp [List.getD_eq_getElem?_getD, i1, i2])]
  have hn1 := le_of hc1
  unfold maxLen at hn1
  have H1 := Lib.hid hA1; have H2 := Lib.hid hA2
  clear hA1 hA2 hc1 hc2
  obtain ⟨n1, hn⟩ : ∃ n, n = l.length := ⟨_, rfl⟩
  obtain ⟨n2, hn2⟩ : ∃ n, n = l'.length := ⟨_, rfl⟩
  rw [← hn] at hn1 H1 ⊢; rw [← hn2] at H2 ⊢
  clear hn hn2
  by_cases hne : n1 = n2
  · subst hne
    rw [eqB_eq]
    go_enter Try.func115, Try.ntmps115
    go_wp2_with fail
    go_loopg [13] n1 (fun gk i wr => ∃ k : Nat, k ≤ n1 ∧ gk = n1 - k ∧ i = .int .i64 k ∧ Hid (Below w.heap.size w wr) ∧ Hid (∀ i, i < k → eqS (l.getD i ByteArray.empty) (l'.getD i ByteArray.empty) = true))
    case atStart => exact ⟨0, Nat.zero_le _, rfl, rfl, Lib.hid (Below.refl _ _), Lib.hid (fun i hi => absurd hi (by omega))⟩
    case round =>
      obtain ⟨k, hk, rfl, rfl, HBR, HALL⟩ := hrel
      by_cases hlt : k < n1
      · obtain ⟨g, o, rfl, hc1⟩ := H1.out (by omega)
        obtain ⟨g', o', rfl, hc2⟩ := H2.out (by omega)
        have h1 := hc1 k hlt 0 (by decide); have h2 := hc2 k hlt 0 (by decide)
        obtain ⟨s, hs⟩ : ∃ s, s = l.getD k ByteArray.empty := ⟨_, rfl⟩
        obtain ⟨s', hs'⟩ : ∃ s, s = l'.getD k ByteArray.empty := ⟨_, rfl⟩
        simp only [Nat.mul_one, Nat.add_zero, mem, List.getElem?_cons_zero] at h1 h2
        rw [← hs] at h1; rw [← hs'] at h2
        have x0 : wr.cell? ⟨g, o + k, none⟩ = some (.string s) := by
          exact (HBR.out.cell (p := ⟨g, o + k, none⟩) (cell_lt h1)).trans h1
        have y0 : wr.cell? ⟨g', o' + k, none⟩ = some (.string s') := by
          exact (HBR.out.cell (p := ⟨g', o' + k, none⟩) (cell_lt h2)).trans h2
        have HS := Lib.hid hs; have HS' := Lib.hid hs'
        have hk1 : (k : Int) < (n1 : Int) := by omega
        have hk0 : (0 : Int) ≤ (k : Int) := by omega
        clear h1 h2 hc1 hc2 hs hs'
        by_cases hq : s.toList = s'.toList
        · have f1 : (s.toList == s'.toList) = true := by simp [hq]
          have f2 : (s.toList != s'.toList) = false := by simp [hq]
          have HE : Hid (eqS s s' = true) := Lib.hid (by simp [eqS, hq])
          clear hq
          go_wp2_with fail
          go_region
          all_goals
            go_wp2_with fail
            go_roundg (n1 - (k + 1))
            case measure => omega
            case rel => exact ⟨k + 1, by omega, rfl, by go_num, Lib.hid HBR.out.drew, Lib.hid (fun i hi => by
              by_cases h : i < k
              · exact HALL.out i h
              · obtain rfl : i = k := by omega
                rw [← HS.out, ← HS'.out]; exact HE.out)⟩
        · have f1 : (s.toList == s'.toList) = false := by simpa using hq
          have f2 : (s.toList != s'.toList) = true := by simpa using hq
          have HE : Hid (eqS s s' = false) := Lib.hid (by simp [eqS, hq])
          clear hq
          go_wp2_with fail
          go_region
          all_goals
            go_wp2_with fail
            go_ret
            exact ⟨ret_b (allB_false hlt (by rw [← HS.out, ← HS'.out]; exact HE.out)).symm, HBR.out.drew⟩
      · obtain rfl : k = n1 := by omega
        go_wp2_with fail
        go_ret
        exact ⟨ret_b (allB_true.2 HALL.out).symm, HBR.out⟩
  · have hne2 : ((n1 : Int) != (n2 : Int)) = true := by rw [bne_iff_ne]; omega
    rw [eqB_ne hne]
    go_enter Try.func115, Try.ntmps115
    go_wp2_with fail
    go_ret
    exact ⟨rfl, Below.refl _ _⟩
end Go.Proofs.Ytfeghobfkgimfaa
