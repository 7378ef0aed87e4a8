/- moved: an expression at other places. -/
import Derived.Test.YtfeghobfkgimfaaKnoA
import Derived.Test.YtfeghobfkgimfaaPlnA
import Derived.Test.YtfeghobfkgimfaaOpnA
namespace Go.Proofs.Ytfeghobfkgimfaa
set_option linter.unusedSimpArgs false
set_option linter.unusedVariables false
open Go.RowKit Go.Shelf

/-- The same but for places, and no larger. -/
def Mv (D D' : Ex) : Prop := sEx D' = sEx D ∧ cntEx D' = cntEx D
def MvA (D D' : Al) : Prop := D'.pat = D.pat ∧ Mv D.body D'.body
def MovV (w : World) (Y : Nat → Prop) (D : Ex) (e : Ending) (w' : World) : Prop := ∃ D' cs, e = .returned (.agg cs.toArray) ∧ Below w.heap.size w w' ∧ Mv D D' ∧ ExC (memX w' (fun g => Y g ∨ w.heap.size ≤ g)) D' cs
def GMe (l : List Ex) (m : Mem) (i : Nat) (cs : List Value) : Prop := ∃ (hi : i < l.length) (D' : Ex), Mv l[i] D' ∧ ExC m D' cs
theorem GMe.mono (l : List Ex) : ∀ m m' i cs, Mem.le m m' → GMe l m i cs → GMe l m' i cs := fun _ _ _ _ hm ⟨hi, D', h1, h⟩ => ⟨hi, D', h1, h.mono hm⟩
def GMa (l : List Al) (m : Mem) (i : Nat) (cs : List Value) : Prop := ∃ (hi : i < l.length) (D' : Al), MvA l[i] D' ∧ AlC m D' cs
theorem GMa.mono (l : List Al) : ∀ m m' i cs, Mem.le m m' → GMa l m i cs → GMa l m' i cs := fun _ _ _ _ hm ⟨hi, D', h1, h⟩ => ⟨hi, D', h1, h.mono hm⟩
theorem sExs_map (l : List Ex) : sExs l = l.map sEx := by
  induction l with
  | nil => rfl
  | cons x l ih => rw [sExs, List.map_cons, ih]
theorem sAls_map (l : List Al) : sAls l = l.map (fun a => Al.mk (sPt a.pat) (sEx a.body)) := by
  induction l with
  | nil => rfl
  | cons x l ih => obtain ⟨p, b⟩ := x; rw [sAls, List.map_cons, ih]; rfl
theorem cntExs_map (l : List Ex) : cntExs l = (l.map cntEx).sum := by
  induction l with
  | nil => rfl
  | cons x l ih => rw [cntExs, List.map_cons, List.sum_cons, ih]
theorem cntAls_map (l : List Al) : cntAls l = (l.map (fun a => 1 + cntPts [a.pat] + cntEx a.body)).sum := by
  induction l with
  | nil => rfl
  | cons x l ih => obtain ⟨p, b⟩ := x; rw [cntAls, List.map_cons, List.sum_cons, ih]; rfl
theorem map_ext {α β : Type} {l l' : List α} (f : α → β) (hl : l'.length = l.length) (h : ∀ i (hi : i < l.length), f (l'[i]'(by omega)) = f l[i]) : l'.map f = l.map f := by
  apply List.ext_getElem
  · simpa using hl
  · intro i h1 h2
    simp only [List.getElem_map]
    exact h i (by simpa using h2)
section
variable {w w2 w3 : World} {X Y Z : Nat → Prop} {base : Nat} {e : TypeId} {sz : Nat} {v : Value} {n : Nat} {C : Nat → List Value} {G : Mem → Nat → List Value → Prop}
/-- One more element, whose blocks are chosen ones and not the row's. -/
theorem RowX.pushZ (hG : ∀ m m' i cs, Mem.le m m' → G m i cs → G m' i cs)
    (h : RowX w X base e sz v n C G) (hb : Below w.heap.size w w2) (hZ : ∀ g, Z g → X g ∧ some g ≠ v.ownBlock) {cs : List Value} (hc : G (memX w2 Z) n cs) (hl : cs.length = sz)
    {g cap : Nat} (hown : w3.ownsRow base e sz (.slice (some ⟨g, 0, none⟩) (n + 1) cap) (n + 1) (flat n C ++ cs)) (hgr : w2.grownBy w3 v.ownBlock) (hat : v.ownBlock = some g ∨ g = w2.heap.size) :
    RowX w3 X base e sz (.slice (some ⟨g, 0, none⟩) (n + 1) cap) (n + 1) (fun i => if i = n then cs else C i) G := by
  have hv : Value.ownBlock (.slice (some ⟨g, 0, none⟩) (n + 1) cap) = some g := rfl
  have hz := hb.size
  have e1 : flat (n + 1) (fun i => if i = n then cs else C i) = flat n C ++ cs := by
    rw [flat_succ, if_pos rfl, flat_congr (D := C) (fun i hi => if_neg (by omega))]
  refine ⟨by rw [e1]; exact hown, fun i hi => ?_, fun i hi => ?_⟩
  · by_cases hin : i = n
    · subst hin
      simp only [if_pos]
      refine hG _ _ _ _ (memX_le_X fun g' hg' hx => ⟨⟨(hZ g' hx).1, ?_⟩, hgr.block g' hg' (hZ g' hx).2⟩) hc
      rw [hv]
      intro he
      have he' : g' = g := by simpa using he
      rcases hat with ha | ha
      · exact (hZ g' hx).2 (by rw [ha, he'])
      · omega
    · simp only [if_neg hin]
      refine hG _ _ _ _ (memX_le_X fun g' hg' hx => ⟨⟨hx.1, ?_⟩, (hgr.block g' (by omega) hx.2).trans (hb.block g' hg')⟩) (h.good i (by omega))
      rw [hv]
      intro he
      have he' : g' = g := by simpa using he
      rcases hat with ha | ha
      · exact hx.2 (by rw [ha, he'])
      · omega
  · by_cases hin : i = n
    · simp only [if_pos hin]; exact hl
    · simp only [if_neg hin]; exact h.len i (by omega)
end
theorem moved_exs {w : World} {X Y : Nat → Prop} {base : Nat} {e : TypeId} {v : Value} {C : Nat → List Value} {l : List Ex} (h : RowX w X base e 8 v l.length C (GMe l)) (hY : ∀ g, X g → Y g) (hYb : ∀ g, base ≤ g → v.ownBlock = some g → Y g) :
    ∃ l' : List Ex, l'.length = l.length ∧ sExs l' = sExs l ∧ cntExs l' = cntExs l ∧ ExsV (memX w Y) l' v := by
  obtain ⟨A, c, rfl, hc, hs, hg⟩ := h.slice (GMe.mono l) hY hYb
  haveI : Inhabited Ex := ⟨.mk 0 0 ⟨#[]⟩ 0 [] [] [] []⟩
  obtain ⟨f, hf⟩ := choose_f (n := l.length) (p := fun i D' => ∀ hi : i < l.length, Mv l[i] D' ∧ ExC (memX w Y) D' (C i)) (fun i hi => by
    obtain ⟨hi', D', h1, h2⟩ := hg i hi
    exact ⟨D', fun _ => ⟨h1, h2⟩⟩)
  have hlen : ((List.range l.length).map f).length = l.length := by simp
  have hget : ∀ i (hi : i < l.length), ((List.range l.length).map f)[i]'(by omega) = f i := fun i hi => by simp
  refine ⟨(List.range l.length).map f, hlen, ?_, ?_, A, c, C, by rw [hlen], by rw [hlen]; exact hc, by rw [hlen]; exact hs, fun i hi => ?_⟩
  · rw [sExs_map, sExs_map]; exact map_ext sEx hlen (fun i hi => by rw [hget i hi]; exact ((hf i hi) hi).1.1)
  · rw [cntExs_map, cntExs_map]; exact congrArg List.sum (map_ext cntEx hlen (fun i hi => by rw [hget i hi]; exact ((hf i hi) hi).1.2))
  · have hi' : i < l.length := by rw [← hlen]; exact hi
    rw [hget i hi']; exact ((hf i hi') hi').2
theorem moved_als {w : World} {X Y : Nat → Prop} {base : Nat} {e : TypeId} {v : Value} {C : Nat → List Value} {l : List Al} (h : RowX w X base e 13 v l.length C (GMa l)) (hY : ∀ g, X g → Y g) (hYb : ∀ g, base ≤ g → v.ownBlock = some g → Y g) :
    ∃ l' : List Al, l'.length = l.length ∧ sAls l' = sAls l ∧ cntAls l' = cntAls l ∧ AlsV (memX w Y) l' v := by
  obtain ⟨A, c, rfl, hc, hs, hg⟩ := h.slice (GMa.mono l) hY hYb
  haveI : Inhabited Al := ⟨.mk (.mk 0 0 ⟨#[]⟩ 0 []) (.mk 0 0 ⟨#[]⟩ 0 [] [] [] [])⟩
  obtain ⟨f, hf⟩ := choose_f (n := l.length) (p := fun i D' => ∀ hi : i < l.length, MvA l[i] D' ∧ AlC (memX w Y) D' (C i)) (fun i hi => by
    obtain ⟨hi', D', h1, h2⟩ := hg i hi
    exact ⟨D', fun _ => ⟨h1, h2⟩⟩)
  have hlen : ((List.range l.length).map f).length = l.length := by simp
  have hget : ∀ i (hi : i < l.length), ((List.range l.length).map f)[i]'(by omega) = f i := fun i hi => by simp
  refine ⟨(List.range l.length).map f, hlen, ?_, ?_, A, c, C, by rw [hlen], by rw [hlen]; exact hc, by rw [hlen]; exact hs, fun i hi => ?_⟩
  · rw [sAls_map, sAls_map]; exact map_ext _ hlen (fun i hi => by
      rw [hget i hi]
      obtain ⟨h1, h2, _⟩ := ((hf i hi) hi).1
      show Al.mk (sPt (f i).pat) (sEx (f i).body) = Al.mk (sPt l[i].pat) (sEx l[i].body)
      rw [h1, h2])
  · rw [cntAls_map, cntAls_map]; exact congrArg List.sum (map_ext _ hlen (fun i hi => by
      rw [hget i hi]
      obtain ⟨h1, _, h2⟩ := ((hf i hi) hi).1
      show 1 + cntPts [(f i).pat] + cntEx (f i).body = 1 + cntPts [l[i].pat] + cntEx l[i].body
      rw [h1, h2]))
  · have hi' : i < l.length := by rw [← hlen]; exact hi
    rw [hget i hi']; exact ((hf i hi') hi').2
theorem src_mem {w W : World} {Y : Nat → Prop} (hb : Below w.heap.size w W) : (memX w Y).le (memX W (fun g => Y g ∧ g < w.heap.size)) := memX_le_X fun g hg hx => ⟨⟨hx, hg⟩, hb.block g hg⟩

set_option maxRecDepth 100000 in
set_option maxHeartbeats 8000000 in
theorem moved_of (D : Ex) (cs : List Value) (by_ : Int) (Y : Nat → Prop) (w : World) (hcnt : cntEx D ≤ 100000) (hDX : ExC (memX w Y) D cs)
    (ihE : ∀ D', SizeOf.sizeOf (D' : Ex) < SizeOf.sizeOf D → cntEx D' ≤ 100000 → ∀ cs' by' Y' W, ExC (memX W Y') D' cs' → Calls Try.prog 36 #[.agg cs'.toArray, .int .i64 by'] W (MovV W Y' D')) :
    Calls Try.prog 36 #[.agg cs.toArray, .int .i64 by_] w (MovV w Y D) := by
  obtain ⟨kk, aa, ss, nn, args, pats, alts, decls⟩ := D
  have hs := hDX.size
  obtain ⟨v1, v2, v3, v4, rfl, h1, h2, h3, h4⟩ := hDX.inv
  simp only [cntEx] at hcnt
  simp at ihE
  have hlenE := len_cntExs args
  have hlenA := len_cntAls alts
  have hn1 : args.length ≤ 100000 := by omega
  have hn2 : alts.length ≤ 100000 := by omega
  have HE := Lib.hid (fun (D' : Ex) (hm : D' ∈ args) => ihE D' (by have := List.sizeOf_lt_of_mem hm; omega) (by have := cntExs_mem hm; omega))
  have HEA := Lib.hid (fun (p : Pt) (b : Ex) (hm : Al.mk p b ∈ alts) => ihE b (by have := List.sizeOf_lt_of_mem hm; simp at this; omega) (by have := cntAls_mem hm; omega))
  have HS := Lib.hid hs
  have HPT := Lib.hid h2; have HDT := Lib.hid h4
  obtain ⟨A, c, C, rfl, hc, hA, hC⟩ := h1
  obtain ⟨A3, c3, C3, rfl, hc3, hA3, hC3⟩ := h3
  obtain ⟨Ap, cp, _, rfl, _⟩ := h2
  obtain ⟨Ad, cd, _, rfl, _⟩ := h4
  obtain ⟨np, hnp⟩ : ∃ n, n = pats.length := ⟨_, rfl⟩
  obtain ⟨nd, hnd⟩ : ∃ n, n = decls.length := ⟨_, rfl⟩
  rw [← hnp] at HPT ⊢; rw [← hnd] at HDT ⊢
  have HA := Lib.hid (hA.mono memX_le (fun i hi => (hC i hi).len)); have HCC := Lib.hid hC; have HA3 := Lib.hid (hA3.mono memX_le (fun i hi => (hC3 i hi).len)); have HCC3 := Lib.hid hC3
  have O1 : Hid (∀ i, i < args.length → (C i).length = 8) := Lib.hid (fun i hi => (hC i hi).len)
  have O3 : Hid (∀ i, i < alts.length → (C3 i).length = 13) := Lib.hid (fun i hi => (hC3 i hi).len)
  clear hs hA hC hA3 hC3 hDX ihE hcnt hlenE hlenA hc hc3 hnp hnd
  obtain ⟨n1, e1⟩ : ∃ x, x = args.length := ⟨_, rfl⟩
  obtain ⟨n2, e2⟩ : ∃ x, x = alts.length := ⟨_, rfl⟩
  rw [← e1] at HA O1 hn1; rw [← e2] at HA3 O3 hn2
  have HN := Lib.hid e1; have HN2 := Lib.hid e2
  rw [← HN.out, ← HN2.out]
  clear e1 e2
  obtain ⟨v1, hv1⟩ : ∃ v, v = Value.slice A n1 c := ⟨_, rfl⟩
  obtain ⟨v3, hv3⟩ : ∃ v, v = Value.slice A3 n2 c3 := ⟨_, rfl⟩
  rw [← hv1, ← hv3]
  have HV1 := Lib.hid hv1; have HV3 := Lib.hid hv3
  clear hv1 hv3
  have hb0 := bl_al (bl2 w (.cells #[.int .i64 kk, .int .i64 aa, .string ss, .int .i64 nn, v1, .slice Ap np cp, v3, .slice Ad nd cd] 93) (.cells #[.int .i64 0, .int .i64 0, .string { data := #[] }, .int .i64 0, .slice none 0 0, .slice none 0 0, .slice none 0 0, .slice none 0 0] 93)) (.cells #[.int .i64 kk, .int .i64 by_, .string ss, .int .i64 nn, .slice none 0 0, .slice Ap np cp, .slice none 0 0, .slice Ad nd cd] 93)
  obtain ⟨wc, eW0⟩ : ∃ wc, (((w.alloc (.cells #[.int .i64 kk, .int .i64 aa, .string ss, .int .i64 nn, v1, .slice Ap np cp, v3, .slice Ad nd cd] 93)).alloc (.cells #[.int .i64 0, .int .i64 0, .string { data := #[] }, .int .i64 0, .slice none 0 0, .slice none 0 0, .slice none 0 0, .slice none 0 0] 93)).alloc (.cells #[.int .i64 kk, .int .i64 by_, .string ss, .int .i64 nn, .slice none 0 0, .slice Ap np cp, .slice none 0 0, .slice Ad nd cd] 93)) = wc := ⟨_, rfl⟩
  have k0 : Blk wc w.heap.size 93 #[.int .i64 kk, .int .i64 aa, .string ss, .int .i64 nn, v1, .slice Ap np cp, v3, .slice Ad nd cd] := by rw [← eW0]; exact bk_alloc (bk_alloc (bk_new _ _ _ _ rfl) _) _
  have k1 : Blk wc (w.heap.size + 1) 93 #[.int .i64 0, .int .i64 0, .string { data := #[] }, .int .i64 0, .slice none 0 0, .slice none 0 0, .slice none 0 0, .slice none 0 0] := by rw [← eW0]; exact bk_alloc (bk_new _ _ _ _ (by simp)) _
  have k2 : Blk wc (w.heap.size + 1 + 1) 93 #[.int .i64 kk, .int .i64 by_, .string ss, .int .i64 nn, .slice none 0 0, .slice Ap np cp, .slice none 0 0, .slice Ad nd cd] := by rw [← eW0]; exact bk_new _ _ _ _ (by simp)
  rw [eW0] at hb0
  have HBW0 : Hid (Below w.heap.size w wc) := Lib.hid hb0
  have HBX0 : Hid (Blk wc w.heap.size 93 #[.int .i64 kk, .int .i64 aa, .string ss, .int .i64 nn, v1, .slice Ap np cp, v3, .slice Ad nd cd]) := Lib.hid k0
  have HRS0 : Hid (Blk wc (w.heap.size + 1) 93 #[.int .i64 0, .int .i64 0, .string { data := #[] }, .int .i64 0, .slice none 0 0, .slice none 0 0, .slice none 0 0, .slice none 0 0]) := Lib.hid k1
  have HK20 : Hid (Blk wc (w.heap.size + 1 + 1) 93 #[.int .i64 kk, .int .i64 by_, .string ss, .int .i64 nn, .slice none 0 0, .slice Ap np cp, .slice none 0 0, .slice Ad nd cd]) := Lib.hid k2
  have HEW := Lib.hid eW0
  obtain ⟨g3, hg3⟩ : ∃ g, g = w.heap.size + 1 + 1 := ⟨_, rfl⟩
  have HG3E := Lib.hid hg3
  have HFAR : Hid (w.heap.size + 2 ≤ g3) := Lib.hid (by omega)
  rw [← hg3] at HK20
  have HG3 : Hid (g3 < wc.heap.size) := Lib.hid (Array.getElem?_eq_some_iff.1 HK20.out).1
  clear hb0 k0 k1 k2 eW0 hg3
  go_enter Try.func36, Try.ntmps36
  go_wp2_with fail
  rw [HEW.out]
  simp only [← HG3E.out]
  have HX0 := HK20
  go_loopg [6] n1 (fun gk i wr => ∃ q : Nat, q ≤ n1 ∧ gk = n1 - q ∧ i = .int .i64 q ∧ Hid (But wc.heap.size g3 wc wr ∧ ∃ A1 c1 C2, Blk wr g3 93 #[.int .i64 kk, .int .i64 by_, .string ss, .int .i64 nn, .slice A1 q c1, .slice Ap np cp, .slice none 0 0, .slice Ad nd cd] ∧ RowX wr (fun g => (Y g ∧ g < w.heap.size) ∨ wc.heap.size ≤ g) wc.heap.size 93 8 (.slice A1 q c1) q C2 (GMe args)))
  case atStart => exact ⟨0, Nat.zero_le _, rfl, rfl, Lib.hid ⟨But.refl _ _ _, none, 0, fun _ => [], HK20.out, RowX.nil _ _ _ _ _ _ _⟩⟩
  case round =>
    obtain ⟨q, hq, rfl, rfl, HL⟩ := hrel
    obtain ⟨hbut, AX, cX, CX, hkb, hrw⟩ := HL.out
    clear HL
    have hbC : Below (w.heap.size + 2) wc wr := hbut.below HFAR.out (by have := HFAR.out; have := HG3.out; omega)
    have HBR : Hid (Below w.heap.size w wr) := Lib.hid (HBW0.out.trans (hbC.mono (by omega)))
    have HBX : Hid (Blk wr w.heap.size 93 #[.int .i64 kk, .int .i64 aa, .string ss, .int .i64 nn, v1, .slice Ap np cp, v3, .slice Ad nd cd]) := Lib.hid ((hbC.block _ (by omega)).trans HBX0.out)
    have hce : wr.cell? ⟨w.heap.size, 4, none⟩ = some (.slice A n1 c) := ((cell_of_row _ _ 4 _ _ _ HBX.out).trans rfl : wr.cell? ⟨w.heap.size, 4, none⟩ = some v1).trans (congrArg some HV1.out)
    have HBU := Lib.hid hbut; have HKB := Lib.hid hkb; have HRW := Lib.hid hrw
    have HRS : Hid (Blk wr (w.heap.size + 1) 93 #[.int .i64 0, .int .i64 0, .string { data := #[] }, .int .i64 0, .slice none 0 0, .slice none 0 0, .slice none 0 0, .slice none 0 0]) := Lib.hid ((hbC.block _ (by omega)).trans HRS0.out)
    clear hbut hkb hrw hbC
    by_cases hlt : q < n1
    · obtain ⟨gi0, hgi, hgz0, hgzs, hgzb⟩ := info_parts Try.infoEE
      obtain ⟨g, o, rfl, hc1⟩ := HA.out (by omega)
      have hql : q < args.length := by rw [← HN.out]; exact hlt
      have hcq := HCC.out q hql
      have r1 : ∀ w', Below (w.heap.size + 1) wr w' → w'.rangeAt g (o + q * 8) (C q) := fun w' hw' => range_at (HBR.out.trans (hw'.mono (by omega))) hc1 hlt (O1.out q hlt)
      have hcall := fun (W : World) (by' : Int) (hb : Below wr.heap.size wr W) => HE.out args[q] (List.getElem_mem hql) (C q) by' (fun g => Y g ∧ g < w.heap.size) W (hcq.mono (src_mem (bl_tr HBR.out hb)))
      obtain ⟨xq, hxq⟩ : ∃ x, x = args[q] := ⟨_, rfl⟩
      rw [← hxq] at hcall hcq
      obtain ⟨e0, e1, e2, e3, e4, e5, e6, e7, ec⟩ := hcq.sh
      rw [ec] at r1 hcall
      have HXQ := Lib.hid hxq; have HEC := Lib.hid hcall; have RA := Lib.hid r1
      have IA := Lib.hid (show (Try.prog.info? 93).map (·.size) = some ([.int .i64 e0, .int .i64 e1, .string e2, .int .i64 e3, e4, e5, e6, e7] : List Value).length from Try.irEE)
      have HGL : Hid (g3 < wr.heap.size) := Lib.hid (Nat.lt_of_lt_of_le HG3.out HBU.out.size)
      have HSM : Hid (w.heap.size + 1 ≤ wr.heap.size) := Lib.hid (by have := HFAR.out; have := HGL.out; omega)
      have HSG : Hid (w.heap.size + 1 ≤ g3) := Lib.hid (by have := HFAR.out; omega)
      have HGB : Hid (g3 < wc.heap.size) := HG3
      have HSB : Hid (wc.heap.size ≤ wr.heap.size) := Lib.hid HBU.out.size
      have HLW : Hid (w.heap.size < wc.heap.size) := Lib.hid (by have := HFAR.out; have := HG3.out; omega)
      have hF0 : wr.cell? ⟨g3, 4, none⟩ = some (.slice AX q cX) := (cell_of_row _ _ 4 _ _ _ HKB.out).trans rfl
      have hk1 : (q : Int) < (n1 : Int) := by omega
      have hk0 : (0 : Int) ≤ (q : Int) := by omega
      have BB : ∀ w', Below (w.heap.size + 1) wr w' → w'.cell? ⟨w.heap.size, 4, none⟩ = some (.slice (some ⟨g, o, none⟩) n1 c) := fun w' hw' => ((cell_of_row _ _ 4 _ _ _ ((hw'.block _ (Nat.lt_succ_self _)).trans HBX.out)).trans rfl : w'.cell? ⟨w.heap.size, 4, none⟩ = some v1).trans (congrArg some HV1.out)
      clear hc1 r1 hcall hcq ec hxq
      go_wp2_with fail
      refine wp_region_held_drew (S := fun w' => Below (w.heap.size + 1) wr w') (by kernel_rfl) (Below.drew (Below.refl _ _)) (fun hHeld => ?_)
      refine wpAnyH_take (i := 0) (v := ?_) rfl (by kernel_rfl) (by kernel_rfl) (by kernel_rfl) (fun _ _ _ h => h) (Or.inl ⟨by rfl, ?_⟩) hHeld ?_
      rotate_left
      · (intro wS hSw; (try dsimp only at hSw); go_simp; try with_reducible rfl)
      (try simp only [Act.put, List.getElem_toArray, List.getElem_cons_zero, List.getElem_cons_succ, List.setIfInBounds_toArray, List.set_cons_zero, List.set_cons_succ])
      refine wpAnyH_take (i := 2) (v := ?_) rfl (by kernel_rfl) (by kernel_rfl) (by kernel_rfl) (fun _ _ _ h => h) (Or.inl ⟨by rfl, ?_⟩) hHeld ?_
      rotate_left
      · (intro wS hSw; (try dsimp only at hSw); go_simp; try with_reducible rfl)
      (try simp only [Act.put, List.getElem_toArray, List.getElem_cons_zero, List.getElem_cons_succ, List.setIfInBounds_toArray, List.set_cons_zero, List.set_cons_succ])
      refine wpAnyH_take (i := 3) (v := ?_) rfl (by kernel_rfl) (by kernel_rfl) (by kernel_rfl) (fun _ _ _ h => h) (Or.inl ⟨by rfl, ?_⟩) hHeld ?_
      rotate_left
      · (intro wS hSw; (try dsimp only at hSw); go_simp; try with_reducible rfl)
      (try simp only [Act.put, List.getElem_toArray, List.getElem_cons_zero, List.getElem_cons_succ, List.setIfInBounds_toArray, List.set_cons_zero, List.set_cons_succ])
      refine wpAnyH_take (i := 4) (v := ?_) rfl (by kernel_rfl) (by kernel_rfl) (by kernel_rfl) (fun _ _ _ h => h) (Or.inl ⟨by rfl, ?_⟩) hHeld ?_
      rotate_left
      · (intro wS hSw; (try dsimp only at hSw); go_simp; try with_reducible rfl)
      (try simp only [Act.put, List.getElem_toArray, List.getElem_cons_zero, List.getElem_cons_succ, List.setIfInBounds_toArray, List.set_cons_zero, List.set_cons_succ])
      refine wpAnyH_take (i := 5) (v := ?_) rfl (by kernel_rfl) (by kernel_rfl) (by kernel_rfl) (fun _ _ _ h => h) (Or.inl ⟨by rfl, ?_⟩) hHeld ?_
      rotate_left
      · (intro wS hSw; (try dsimp only at hSw); go_simp; try with_reducible rfl)
      (try simp only [Act.put, List.getElem_toArray, List.getElem_cons_zero, List.getElem_cons_succ, List.setIfInBounds_toArray, List.set_cons_zero, List.set_cons_succ])
      refine wpAnyH_take (i := 6) rfl (by kernel_rfl) (by kernel_rfl) (by kernel_rfl) (fun _ _ _ h => h) (yieldsIf_load_mid (by rfl) 93 (.tmp 32) rfl g (o + q * 8) rfl ([.int .i64 e0, .int .i64 e1, .string e2, .int .i64 e3, e4, e5, e6, e7]) _ RA.out Try.underlying93 rfl IA.out) hHeld ?_
      (try simp only [Act.put, List.getElem_toArray, List.getElem_cons_zero, List.getElem_cons_succ, List.setIfInBounds_toArray, List.set_cons_zero, List.set_cons_succ])
      refine wpAnyH_take (i := 7) (v := ?_) rfl (by kernel_rfl) (by kernel_rfl) (by kernel_rfl) (fun _ _ _ h => h) (Or.inl ⟨by rfl, ?_⟩) hHeld ?_
      rotate_left
      · (intro wS hSw; (try dsimp only at hSw); go_simp; try with_reducible rfl)
      (try simp only [Act.put, List.getElem_toArray, List.getElem_cons_zero, List.getElem_cons_succ, List.setIfInBounds_toArray, List.set_cons_zero, List.set_cons_succ])
      refine wpAnyH_take (i := 8) (v := ?_) rfl (by kernel_rfl) (by kernel_rfl) (by kernel_rfl) (fun _ _ _ h => h) (Or.inl ⟨by rfl, ?_⟩) hHeld ?_
      rotate_left
      · (intro wS hSw; (try dsimp only at hSw); go_simp; try with_reducible rfl)
      (try simp only [Act.put, List.getElem_toArray, List.getElem_cons_zero, List.getElem_cons_succ, List.setIfInBounds_toArray, List.set_cons_zero, List.set_cons_succ])
      refine wpAnyH_take (i := 9) (v := ?_) rfl (by kernel_rfl) (by kernel_rfl) (by kernel_rfl) (fun _ _ _ h => h) (Or.inl ⟨by rfl, ?_⟩) hHeld ?_
      rotate_left
      · (intro wS hSw; (try dsimp only at hSw); go_simp; try with_reducible rfl)
      (try simp only [Act.put, List.getElem_toArray, List.getElem_cons_zero, List.getElem_cons_succ, List.setIfInBounds_toArray, List.set_cons_zero, List.set_cons_succ])
      refine wpAnyH_ready (rs := [1, 10]) (by kernel_rfl) (by simp) ?_
      refine AllReadyH.cons rfl (fun K hK => ?_) (AllReadyH.cons rfl (fun K hK => ?_) AllReadyH.nil)
      · (try simp only [List.getElem_toArray, List.getElem_cons_zero, List.getElem_cons_succ, List.setIfInBounds_toArray, List.set_cons_zero, List.set_cons_succ])
        try go_simp
        refine hK.out _ _ ?_ (fun hHeld => ?_)
        · exact Below.drew (Below.refl _ _)
        (try simp only [Act.put, List.getElem_toArray, List.getElem_cons_zero, List.getElem_cons_succ, List.setIfInBounds_toArray, List.set_cons_zero, List.set_cons_succ])
        refine wpAnyH_ready (rs := [10]) (by kernel_rfl) (by simp) ?_
        refine AllReadyH.cons rfl (fun K hK => ?_) AllReadyH.nil
        · (try simp only [List.getElem_toArray, List.getElem_cons_zero, List.getElem_cons_succ, List.setIfInBounds_toArray, List.set_cons_zero, List.set_cons_succ])
          try go_simp
          refine (HEC.out _ _ (Below.drew (Below.refl _ _))).mono ?_
          rintro e w2 ⟨Dq, cq, rfl, hb2, hal, hT⟩
          obtain ⟨x0, x1, x2, x3, XA, xm, xc, XB, xn, xd, XC, xo, xe, XD, xp, xf, rfl⟩ := hT.sh3
          have HTw2 := Lib.hid hT; have HAL := Lib.hid hal
          have HBW : Hid (Below wr.heap.size wr w2) := Lib.hid (bl_tr (Below.drew (Below.refl _ _)) hb2)
          have hFw2 : w2.cell? ⟨g3, 4, none⟩ = some (.slice AX q cX) := (cell_of_row _ _ 4 _ _ _ (bk_below HKB.out HBW.out)).trans rfl
          clear hb2 hT hal
          try go_simp
          refine hK.out _ _ ?_ (fun hHeld => ?_)
          · exact HBW.out.mono HSM.out
          (try simp only [Act.put, List.getElem_toArray, List.getElem_cons_zero, List.getElem_cons_succ, List.setIfInBounds_toArray, List.set_cons_zero, List.set_cons_succ])
          refine wpAnyH_ready (rs := [11]) (by kernel_rfl) (by simp) ?_
          refine AllReadyH.cons rfl (fun K hK => ?_) AllReadyH.nil
          · (try simp only [List.getElem_toArray, List.getElem_cons_zero, List.getElem_cons_succ, List.setIfInBounds_toArray, List.set_cons_zero, List.set_cons_succ])
            try go_simp
            refine hK.out _ _ ?_ (fun hHeld => ?_)
            · exact ((bl_al HBW.out _).mono HSM.out)
            (try simp only [Act.put, List.getElem_toArray, List.getElem_cons_zero, List.getElem_cons_succ, List.setIfInBounds_toArray, List.set_cons_zero, List.set_cons_succ])
            refine wpAnyH_ready (rs := [12]) (by kernel_rfl) (by simp) ?_
            refine AllReadyH.cons rfl (fun K hK => ?_) AllReadyH.nil
            · skip
              refine step_append_lies _ rfl (.tmp 28) (.tmp 38) 88 rfl wc.heap.size 93 gi0 (.agg #[.int .i64 0, .int .i64 0, .string { data := #[] }, .int .i64 0, .slice none 0 0, .slice none 0 0, .slice none 0 0, .slice none 0 0]) 8 136 Try.underlying88 hgi hgz0 hgzs hgzb rfl (by decide) (.slice AX q cX) q (flat q CX) rfl (HRW.out.below (GMe.mono args) (bl_al HBW.out _)).own ⟨w2.heap.size, 0, none⟩ 1 1 [.int .i64 x0, .int .i64 x1, .string x2, .int .i64 x3, .slice XA xm xc, .slice XB xn xd, .slice XC xo xe, .slice XD xp xf] rfl rfl (World.news_of_block (cs := #[.int .i64 x0, .int .i64 x1, .string x2, .int .i64 x3, .slice XA xm xc, .slice XB xn xd, .slice XC xo xe, .slice XD xp xf]) (t := 93) (fr := (0, 0)) (heap_alloc_new w2 _)) (by simp [Value.oneCell']) (by decide) (by unfold maxLen; omega) (by omega) (by simp; have := HBW.out.size; have := HSB.out; omega) (w2.heap.size + 1) (by simp) ?_
              intro g4 cap4 w4 hown4 hgrow4 hat4 hglt4
              have HOW := Lib.hid hown4; have HGR := Lib.hid hgrow4; have HAT := Lib.hid hat4; clear hown4 hgrow4 hat4 hglt4
              have HK4 : Hid (Blk w4 g3 93 #[.int .i64 kk, .int .i64 by_, .string ss, .int .i64 nn, .slice AX q cX, .slice Ap np cp, .slice none 0 0, .slice Ad nd cd]) := Lib.hid ((HGR.out.block g3 (by have := HGL.out; have := HBW.out.size; simp; omega) (by intro e; have := (ownB_lt HRW.out.own e.symm).1; have := HGB.out; omega)).trans (bk_alloc (bk_below HKB.out HBW.out) _))
              have hc4 : w4.cell? ⟨g3, 4, none⟩ = some (.slice AX q cX) := (cell_of_row _ _ 4 _ _ _ HK4.out).trans rfl
              have hf4 : w4.frozen? ⟨g3, 4, none⟩ = false := frozen_of_row _ _ 4 _ _ HK4.out
              refine hK.out _ _ ?_ (fun hHeld => ?_)
              · exact (((bl_al HBW.out _).mono HSM.out)).grown HGR.out (by simp; have := HBW.out.size; have := HSM.out; omega) (fun k hk => by have := (ownB_lt HRW.out.own hk).1; have := HSG.out; have := HGB.out; omega)
              (try simp only [Act.put, List.getElem_toArray, List.getElem_cons_zero, List.getElem_cons_succ, List.setIfInBounds_toArray, List.set_cons_zero, List.set_cons_succ])
              refine wpAnyH_take (i := 13) (v := ?_) rfl (by kernel_rfl) (by kernel_rfl) (by kernel_rfl) (fun _ _ _ h => h) (Or.inl ⟨by rfl, ?_⟩) hHeld ?_
              rotate_left
              · (intro wS hSw; (try dsimp only at hSw); go_simp; try with_reducible rfl)
              (try simp only [Act.put, List.getElem_toArray, List.getElem_cons_zero, List.getElem_cons_succ, List.setIfInBounds_toArray, List.set_cons_zero, List.set_cons_succ])
              refine wpAnyH_ready (rs := [14]) (by kernel_rfl) (by simp) ?_
              refine AllReadyH.cons rfl (fun K hK => ?_) AllReadyH.nil
              · (try simp only [List.getElem_toArray, List.getElem_cons_zero, List.getElem_cons_succ, List.setIfInBounds_toArray, List.set_cons_zero, List.set_cons_succ])
                try go_simp
                refine hK.out _ _ ?_ (fun hHeld => ?_)
                · exact ((((bl_al HBW.out _).mono HSM.out)).grown HGR.out (by simp; have := HBW.out.size; have := HSM.out; omega) (fun k hk => by have := (ownB_lt HRW.out.own hk).1; have := HSG.out; have := HGB.out; omega)).setCell HSG.out _
                (try simp only [Act.put, List.getElem_toArray, List.getElem_cons_zero, List.getElem_cons_succ, List.setIfInBounds_toArray, List.set_cons_zero, List.set_cons_succ])
                refine wpAnyH_done (by kernel_rfl) ?_ _
                go_wp2_with fail
                go_roundg (n1 - (q + 1))
                case measure => omega
                case rel =>
                  have hlw := HLW.out
                  have hrp := RowX.pushZ (GMe.mono args) (w := wr) (w2 := w2.alloc (.cells #[.int .i64 x0, .int .i64 x1, .string x2, .int .i64 x3, .slice XA xm xc, .slice XB xn xd, .slice XC xo xe, .slice XD xp xf] 93)) (Z := fun g => (Y g ∧ g < w.heap.size) ∨ wr.heap.size ≤ g) HRW.out (bl_al HBW.out _) (fun g hg => by rcases hg with hg | hg; exact ⟨.inl hg, fun e => by have := (ownB_lt HRW.out.own e.symm).1; omega⟩; exact ⟨.inr (Nat.le_trans HSB.out hg), fun e => by have := (ownB_lt HRW.out.own e.symm).2; omega⟩) ⟨hql, Dq, by rw [← HXQ.out]; exact HAL.out, HTw2.out.mono (memX_le_X fun g hg hx => ⟨hx, Below.heap_alloc w2 _ g hg⟩)⟩ rfl HOW.out HGR.out (by have := HAT.out; simpa using this)
                  refine ⟨q + 1, by omega, rfl, by go_num, Lib.hid ⟨?_, some ⟨g4, 0, none⟩, cap4, _, ?_, RowX.same (GMe.mono args) hrp (fun k hk hx => Below.heap_setCell w4 _ _ k ?_)⟩⟩
                  · exact But.cell (HBU.out.trans (But.of ((bl_al HBW.out _).mono HSB.out |>.grown HGR.out (by simp; have := HBW.out.size; have := HSB.out; omega) (fun k hk => (ownB_lt HRW.out.own hk).1)))) _ _
                  · exact (heap_setCell_same w4 g3 4 _ _ _ HK4.out).trans rfl
                  · have := HGB.out
                    have := HFAR.out
                    rcases hx with (hx | hx) | hx
                    · show k ≠ g3; omega
                    · show k ≠ g3; omega
                    · have := (ownB_lt hrp.own hx.symm).1; show k ≠ g3; omega
      · (try simp only [List.getElem_toArray, List.getElem_cons_zero, List.getElem_cons_succ, List.setIfInBounds_toArray, List.set_cons_zero, List.set_cons_succ])
        try go_simp
        refine (HEC.out _ _ (Below.drew (Below.refl _ _))).mono ?_
        rintro e w2 ⟨Dq, cq, rfl, hb2, hal, hT⟩
        obtain ⟨x0, x1, x2, x3, XA, xm, xc, XB, xn, xd, XC, xo, xe, XD, xp, xf, rfl⟩ := hT.sh3
        have HTw2 := Lib.hid hT; have HAL := Lib.hid hal
        have HBW : Hid (Below wr.heap.size wr w2) := Lib.hid (bl_tr (Below.drew (Below.refl _ _)) hb2)
        have hFw2 : w2.cell? ⟨g3, 4, none⟩ = some (.slice AX q cX) := (cell_of_row _ _ 4 _ _ _ (bk_below HKB.out HBW.out)).trans rfl
        clear hb2 hT hal
        try go_simp
        refine hK.out _ _ ?_ (fun hHeld => ?_)
        · exact HBW.out.mono HSM.out
        (try simp only [Act.put, List.getElem_toArray, List.getElem_cons_zero, List.getElem_cons_succ, List.setIfInBounds_toArray, List.set_cons_zero, List.set_cons_succ])
        refine wpAnyH_ready (rs := [1, 11]) (by kernel_rfl) (by simp) ?_
        refine AllReadyH.cons rfl (fun K hK => ?_) (AllReadyH.cons rfl (fun K hK => ?_) AllReadyH.nil)
        · (try simp only [List.getElem_toArray, List.getElem_cons_zero, List.getElem_cons_succ, List.setIfInBounds_toArray, List.set_cons_zero, List.set_cons_succ])
          try go_simp
          refine hK.out _ _ ?_ (fun hHeld => ?_)
          · exact HBW.out.mono HSM.out
          (try simp only [Act.put, List.getElem_toArray, List.getElem_cons_zero, List.getElem_cons_succ, List.setIfInBounds_toArray, List.set_cons_zero, List.set_cons_succ])
          refine wpAnyH_ready (rs := [11]) (by kernel_rfl) (by simp) ?_
          refine AllReadyH.cons rfl (fun K hK => ?_) AllReadyH.nil
          · (try simp only [List.getElem_toArray, List.getElem_cons_zero, List.getElem_cons_succ, List.setIfInBounds_toArray, List.set_cons_zero, List.set_cons_succ])
            try go_simp
            refine hK.out _ _ ?_ (fun hHeld => ?_)
            · exact ((bl_al HBW.out _).mono HSM.out)
            (try simp only [Act.put, List.getElem_toArray, List.getElem_cons_zero, List.getElem_cons_succ, List.setIfInBounds_toArray, List.set_cons_zero, List.set_cons_succ])
            refine wpAnyH_ready (rs := [12]) (by kernel_rfl) (by simp) ?_
            refine AllReadyH.cons rfl (fun K hK => ?_) AllReadyH.nil
            · skip
              refine step_append_lies _ rfl (.tmp 28) (.tmp 38) 88 rfl wc.heap.size 93 gi0 (.agg #[.int .i64 0, .int .i64 0, .string { data := #[] }, .int .i64 0, .slice none 0 0, .slice none 0 0, .slice none 0 0, .slice none 0 0]) 8 136 Try.underlying88 hgi hgz0 hgzs hgzb rfl (by decide) (.slice AX q cX) q (flat q CX) rfl (HRW.out.below (GMe.mono args) (bl_al HBW.out _)).own ⟨w2.heap.size, 0, none⟩ 1 1 [.int .i64 x0, .int .i64 x1, .string x2, .int .i64 x3, .slice XA xm xc, .slice XB xn xd, .slice XC xo xe, .slice XD xp xf] rfl rfl (World.news_of_block (cs := #[.int .i64 x0, .int .i64 x1, .string x2, .int .i64 x3, .slice XA xm xc, .slice XB xn xd, .slice XC xo xe, .slice XD xp xf]) (t := 93) (fr := (0, 0)) (heap_alloc_new w2 _)) (by simp [Value.oneCell']) (by decide) (by unfold maxLen; omega) (by omega) (by simp; have := HBW.out.size; have := HSB.out; omega) (w2.heap.size + 1) (by simp) ?_
              intro g4 cap4 w4 hown4 hgrow4 hat4 hglt4
              have HOW := Lib.hid hown4; have HGR := Lib.hid hgrow4; have HAT := Lib.hid hat4; clear hown4 hgrow4 hat4 hglt4
              have HK4 : Hid (Blk w4 g3 93 #[.int .i64 kk, .int .i64 by_, .string ss, .int .i64 nn, .slice AX q cX, .slice Ap np cp, .slice none 0 0, .slice Ad nd cd]) := Lib.hid ((HGR.out.block g3 (by have := HGL.out; have := HBW.out.size; simp; omega) (by intro e; have := (ownB_lt HRW.out.own e.symm).1; have := HGB.out; omega)).trans (bk_alloc (bk_below HKB.out HBW.out) _))
              have hc4 : w4.cell? ⟨g3, 4, none⟩ = some (.slice AX q cX) := (cell_of_row _ _ 4 _ _ _ HK4.out).trans rfl
              have hf4 : w4.frozen? ⟨g3, 4, none⟩ = false := frozen_of_row _ _ 4 _ _ HK4.out
              refine hK.out _ _ ?_ (fun hHeld => ?_)
              · exact (((bl_al HBW.out _).mono HSM.out)).grown HGR.out (by simp; have := HBW.out.size; have := HSM.out; omega) (fun k hk => by have := (ownB_lt HRW.out.own hk).1; have := HSG.out; have := HGB.out; omega)
              (try simp only [Act.put, List.getElem_toArray, List.getElem_cons_zero, List.getElem_cons_succ, List.setIfInBounds_toArray, List.set_cons_zero, List.set_cons_succ])
              refine wpAnyH_take (i := 13) (v := ?_) rfl (by kernel_rfl) (by kernel_rfl) (by kernel_rfl) (fun _ _ _ h => h) (Or.inl ⟨by rfl, ?_⟩) hHeld ?_
              rotate_left
              · (intro wS hSw; (try dsimp only at hSw); go_simp; try with_reducible rfl)
              (try simp only [Act.put, List.getElem_toArray, List.getElem_cons_zero, List.getElem_cons_succ, List.setIfInBounds_toArray, List.set_cons_zero, List.set_cons_succ])
              refine wpAnyH_ready (rs := [14]) (by kernel_rfl) (by simp) ?_
              refine AllReadyH.cons rfl (fun K hK => ?_) AllReadyH.nil
              · (try simp only [List.getElem_toArray, List.getElem_cons_zero, List.getElem_cons_succ, List.setIfInBounds_toArray, List.set_cons_zero, List.set_cons_succ])
                try go_simp
                refine hK.out _ _ ?_ (fun hHeld => ?_)
                · exact ((((bl_al HBW.out _).mono HSM.out)).grown HGR.out (by simp; have := HBW.out.size; have := HSM.out; omega) (fun k hk => by have := (ownB_lt HRW.out.own hk).1; have := HSG.out; have := HGB.out; omega)).setCell HSG.out _
                (try simp only [Act.put, List.getElem_toArray, List.getElem_cons_zero, List.getElem_cons_succ, List.setIfInBounds_toArray, List.set_cons_zero, List.set_cons_succ])
                refine wpAnyH_done (by kernel_rfl) ?_ _
                go_wp2_with fail
                go_roundg (n1 - (q + 1))
                case measure => omega
                case rel =>
                  have hlw := HLW.out
                  have hrp := RowX.pushZ (GMe.mono args) (w := wr) (w2 := w2.alloc (.cells #[.int .i64 x0, .int .i64 x1, .string x2, .int .i64 x3, .slice XA xm xc, .slice XB xn xd, .slice XC xo xe, .slice XD xp xf] 93)) (Z := fun g => (Y g ∧ g < w.heap.size) ∨ wr.heap.size ≤ g) HRW.out (bl_al HBW.out _) (fun g hg => by rcases hg with hg | hg; exact ⟨.inl hg, fun e => by have := (ownB_lt HRW.out.own e.symm).1; omega⟩; exact ⟨.inr (Nat.le_trans HSB.out hg), fun e => by have := (ownB_lt HRW.out.own e.symm).2; omega⟩) ⟨hql, Dq, by rw [← HXQ.out]; exact HAL.out, HTw2.out.mono (memX_le_X fun g hg hx => ⟨hx, Below.heap_alloc w2 _ g hg⟩)⟩ rfl HOW.out HGR.out (by have := HAT.out; simpa using this)
                  refine ⟨q + 1, by omega, rfl, by go_num, Lib.hid ⟨?_, some ⟨g4, 0, none⟩, cap4, _, ?_, RowX.same (GMe.mono args) hrp (fun k hk hx => Below.heap_setCell w4 _ _ k ?_)⟩⟩
                  · exact But.cell (HBU.out.trans (But.of ((bl_al HBW.out _).mono HSB.out |>.grown HGR.out (by simp; have := HBW.out.size; have := HSB.out; omega) (fun k hk => (ownB_lt HRW.out.own hk).1)))) _ _
                  · exact (heap_setCell_same w4 g3 4 _ _ _ HK4.out).trans rfl
                  · have := HGB.out
                    have := HFAR.out
                    rcases hx with (hx | hx) | hx
                    · show k ≠ g3; omega
                    · show k ≠ g3; omega
                    · have := (ownB_lt hrp.own hx.symm).1; show k ≠ g3; omega
        · (try simp only [List.getElem_toArray, List.getElem_cons_zero, List.getElem_cons_succ, List.setIfInBounds_toArray, List.set_cons_zero, List.set_cons_succ])
          try go_simp
          have hF5 : (w2.alloc (.cells #[.int .i64 x0, .int .i64 x1, .string x2, .int .i64 x3, .slice XA xm xc, .slice XB xn xd, .slice XC xo xe, .slice XD xp xf] 93)).cell? ⟨g3, 4, none⟩ = some (.slice AX q cX) := (cell_of_row _ _ 4 _ _ _ (bk_alloc (bk_below HKB.out HBW.out) _)).trans rfl
          try go_simp
          refine hK.out _ _ ?_ (fun hHeld => ?_)
          · exact ((bl_al HBW.out _).mono HSM.out)
          (try simp only [Act.put, List.getElem_toArray, List.getElem_cons_zero, List.getElem_cons_succ, List.setIfInBounds_toArray, List.set_cons_zero, List.set_cons_succ])
          refine wpAnyH_ready (rs := [1]) (by kernel_rfl) (by simp) ?_
          refine AllReadyH.cons rfl (fun K hK => ?_) AllReadyH.nil
          · (try simp only [List.getElem_toArray, List.getElem_cons_zero, List.getElem_cons_succ, List.setIfInBounds_toArray, List.set_cons_zero, List.set_cons_succ])
            try go_simp
            refine hK.out _ _ ?_ (fun hHeld => ?_)
            · exact ((bl_al HBW.out _).mono HSM.out)
            (try simp only [Act.put, List.getElem_toArray, List.getElem_cons_zero, List.getElem_cons_succ, List.setIfInBounds_toArray, List.set_cons_zero, List.set_cons_succ])
            refine wpAnyH_ready (rs := [12]) (by kernel_rfl) (by simp) ?_
            refine AllReadyH.cons rfl (fun K hK => ?_) AllReadyH.nil
            · skip
              refine step_append_lies _ rfl (.tmp 28) (.tmp 38) 88 rfl wc.heap.size 93 gi0 (.agg #[.int .i64 0, .int .i64 0, .string { data := #[] }, .int .i64 0, .slice none 0 0, .slice none 0 0, .slice none 0 0, .slice none 0 0]) 8 136 Try.underlying88 hgi hgz0 hgzs hgzb rfl (by decide) (.slice AX q cX) q (flat q CX) rfl (HRW.out.below (GMe.mono args) (bl_al HBW.out _)).own ⟨w2.heap.size, 0, none⟩ 1 1 [.int .i64 x0, .int .i64 x1, .string x2, .int .i64 x3, .slice XA xm xc, .slice XB xn xd, .slice XC xo xe, .slice XD xp xf] rfl rfl (World.news_of_block (cs := #[.int .i64 x0, .int .i64 x1, .string x2, .int .i64 x3, .slice XA xm xc, .slice XB xn xd, .slice XC xo xe, .slice XD xp xf]) (t := 93) (fr := (0, 0)) (heap_alloc_new w2 _)) (by simp [Value.oneCell']) (by decide) (by unfold maxLen; omega) (by omega) (by simp; have := HBW.out.size; have := HSB.out; omega) (w2.heap.size + 1) (by simp) ?_
              intro g4 cap4 w4 hown4 hgrow4 hat4 hglt4
              have HOW := Lib.hid hown4; have HGR := Lib.hid hgrow4; have HAT := Lib.hid hat4; clear hown4 hgrow4 hat4 hglt4
              have HK4 : Hid (Blk w4 g3 93 #[.int .i64 kk, .int .i64 by_, .string ss, .int .i64 nn, .slice AX q cX, .slice Ap np cp, .slice none 0 0, .slice Ad nd cd]) := Lib.hid ((HGR.out.block g3 (by have := HGL.out; have := HBW.out.size; simp; omega) (by intro e; have := (ownB_lt HRW.out.own e.symm).1; have := HGB.out; omega)).trans (bk_alloc (bk_below HKB.out HBW.out) _))
              have hc4 : w4.cell? ⟨g3, 4, none⟩ = some (.slice AX q cX) := (cell_of_row _ _ 4 _ _ _ HK4.out).trans rfl
              have hf4 : w4.frozen? ⟨g3, 4, none⟩ = false := frozen_of_row _ _ 4 _ _ HK4.out
              refine hK.out _ _ ?_ (fun hHeld => ?_)
              · exact (((bl_al HBW.out _).mono HSM.out)).grown HGR.out (by simp; have := HBW.out.size; have := HSM.out; omega) (fun k hk => by have := (ownB_lt HRW.out.own hk).1; have := HSG.out; have := HGB.out; omega)
              (try simp only [Act.put, List.getElem_toArray, List.getElem_cons_zero, List.getElem_cons_succ, List.setIfInBounds_toArray, List.set_cons_zero, List.set_cons_succ])
              refine wpAnyH_take (i := 13) (v := ?_) rfl (by kernel_rfl) (by kernel_rfl) (by kernel_rfl) (fun _ _ _ h => h) (Or.inl ⟨by rfl, ?_⟩) hHeld ?_
              rotate_left
              · (intro wS hSw; (try dsimp only at hSw); go_simp; try with_reducible rfl)
              (try simp only [Act.put, List.getElem_toArray, List.getElem_cons_zero, List.getElem_cons_succ, List.setIfInBounds_toArray, List.set_cons_zero, List.set_cons_succ])
              refine wpAnyH_ready (rs := [14]) (by kernel_rfl) (by simp) ?_
              refine AllReadyH.cons rfl (fun K hK => ?_) AllReadyH.nil
              · (try simp only [List.getElem_toArray, List.getElem_cons_zero, List.getElem_cons_succ, List.setIfInBounds_toArray, List.set_cons_zero, List.set_cons_succ])
                try go_simp
                refine hK.out _ _ ?_ (fun hHeld => ?_)
                · exact ((((bl_al HBW.out _).mono HSM.out)).grown HGR.out (by simp; have := HBW.out.size; have := HSM.out; omega) (fun k hk => by have := (ownB_lt HRW.out.own hk).1; have := HSG.out; have := HGB.out; omega)).setCell HSG.out _
                (try simp only [Act.put, List.getElem_toArray, List.getElem_cons_zero, List.getElem_cons_succ, List.setIfInBounds_toArray, List.set_cons_zero, List.set_cons_succ])
                refine wpAnyH_done (by kernel_rfl) ?_ _
                go_wp2_with fail
                go_roundg (n1 - (q + 1))
                case measure => omega
                case rel =>
                  have hlw := HLW.out
                  have hrp := RowX.pushZ (GMe.mono args) (w := wr) (w2 := w2.alloc (.cells #[.int .i64 x0, .int .i64 x1, .string x2, .int .i64 x3, .slice XA xm xc, .slice XB xn xd, .slice XC xo xe, .slice XD xp xf] 93)) (Z := fun g => (Y g ∧ g < w.heap.size) ∨ wr.heap.size ≤ g) HRW.out (bl_al HBW.out _) (fun g hg => by rcases hg with hg | hg; exact ⟨.inl hg, fun e => by have := (ownB_lt HRW.out.own e.symm).1; omega⟩; exact ⟨.inr (Nat.le_trans HSB.out hg), fun e => by have := (ownB_lt HRW.out.own e.symm).2; omega⟩) ⟨hql, Dq, by rw [← HXQ.out]; exact HAL.out, HTw2.out.mono (memX_le_X fun g hg hx => ⟨hx, Below.heap_alloc w2 _ g hg⟩)⟩ rfl HOW.out HGR.out (by have := HAT.out; simpa using this)
                  refine ⟨q + 1, by omega, rfl, by go_num, Lib.hid ⟨?_, some ⟨g4, 0, none⟩, cap4, _, ?_, RowX.same (GMe.mono args) hrp (fun k hk hx => Below.heap_setCell w4 _ _ k ?_)⟩⟩
                  · exact But.cell (HBU.out.trans (But.of ((bl_al HBW.out _).mono HSB.out |>.grown HGR.out (by simp; have := HBW.out.size; have := HSB.out; omega) (fun k hk => (ownB_lt HRW.out.own hk).1)))) _ _
                  · exact (heap_setCell_same w4 g3 4 _ _ _ HK4.out).trans rfl
                  · have := HGB.out
                    have := HFAR.out
                    rcases hx with (hx | hx) | hx
                    · show k ≠ g3; omega
                    · show k ≠ g3; omega
                    · have := (ownB_lt hrp.own hx.symm).1; show k ≠ g3; omega
    · obtain rfl : n1 = q := by omega
      obtain ⟨wo, rfl⟩ : ∃ wo : World, wo = wr := ⟨_, rfl⟩
      obtain ⟨A1, rfl⟩ : ∃ x : Option Addr, x = AX := ⟨_, rfl⟩
      obtain ⟨c1, rfl⟩ : ∃ x : Nat, x = cX := ⟨_, rfl⟩
      obtain ⟨C1, rfl⟩ : ∃ x : Nat → List Value, x = CX := ⟨_, rfl⟩
      have HBU1 := HBU; have HKB1 := HKB; have HRW1 := HRW; have HG31 := HG3
      clear HG3 HBW0 HBX0 HRS0
      have HG3 : Hid (g3 < wo.heap.size) := Lib.hid (Nat.lt_of_lt_of_le HG31.out HBU1.out.size)
      have HBW0 := HBR; have HBX0 := HBX; have HRS0 := HRS
      clear HBU HKB HRW HBR HBX HRS
      go_wp2_with fail
      clear hce
      go_loopg [7] n2 (fun gk i wr => ∃ q : Nat, q ≤ n2 ∧ gk = n2 - q ∧ i = .int .i64 q ∧ Hid (But wo.heap.size g3 wo wr ∧ ∃ A2 c2 C3, Blk wr g3 93 #[.int .i64 kk, .int .i64 by_, .string ss, .int .i64 nn, .slice A1 n1 c1, .slice Ap np cp, .slice A2 q c2, .slice Ad nd cd] ∧ RowX wr (fun g => (Y g ∧ g < w.heap.size) ∨ wo.heap.size ≤ g) wo.heap.size 135 13 (.slice A2 q c2) q C3 (GMa alts)))
      case atStart => exact ⟨0, Nat.zero_le _, rfl, rfl, Lib.hid ⟨But.refl _ _ _, none, 0, fun _ => [], HKB1.out, RowX.nil _ _ _ _ _ _ _⟩⟩
      case round =>
        obtain ⟨q, hq, rfl, rfl, HL⟩ := hrel
        obtain ⟨hbut, AX, cX, CX, hkb, hrw⟩ := HL.out
        clear HL
        have hbC : Below (w.heap.size + 2) wo wr := hbut.below HFAR.out (by have := HFAR.out; have := HG3.out; omega)
        have HBR : Hid (Below w.heap.size w wr) := Lib.hid (HBW0.out.trans (hbC.mono (by omega)))
        have HBX : Hid (Blk wr w.heap.size 93 #[.int .i64 kk, .int .i64 aa, .string ss, .int .i64 nn, v1, .slice Ap np cp, v3, .slice Ad nd cd]) := Lib.hid ((hbC.block _ (by omega)).trans HBX0.out)
        have hce : wr.cell? ⟨w.heap.size, 6, none⟩ = some (.slice A3 n2 c3) := ((cell_of_row _ _ 6 _ _ _ HBX.out).trans rfl : wr.cell? ⟨w.heap.size, 6, none⟩ = some v3).trans (congrArg some HV3.out)
        have HBU := Lib.hid hbut; have HKB := Lib.hid hkb; have HRW := Lib.hid hrw
        have HRS : Hid (Blk wr (w.heap.size + 1) 93 #[.int .i64 0, .int .i64 0, .string { data := #[] }, .int .i64 0, .slice none 0 0, .slice none 0 0, .slice none 0 0, .slice none 0 0]) := Lib.hid ((hbC.block _ (by omega)).trans HRS0.out)
        clear hbut hkb hrw hbC
        by_cases hlt : q < n2
        · obtain ⟨gi0, hgi, hgz0, hgzs, hgzb⟩ := info_parts Try.infoAA
          obtain ⟨g, o, rfl, hc1⟩ := HA3.out (by omega)
          have hql : q < alts.length := by rw [← HN2.out]; exact hlt
          have hcq := HCC3.out q hql
          have r1 : ∀ w', Below (w.heap.size + 1) wr w' → w'.rangeAt g (o + q * 13) (C3 q) := fun w' hw' => range_at (HBR.out.trans (hw'.mono (by omega))) hc1 hlt (O3.out q hlt)
          have hmem : alts[q] ∈ alts := List.getElem_mem hql
          obtain ⟨xq, hxq⟩ : ∃ x, x = alts[q] := ⟨_, rfl⟩
          rw [← hxq] at hmem hcq
          obtain ⟨p, b⟩ := xq
          obtain ⟨cp', cb', ec, hp, hb⟩ := hcq.inv
          rw [ec] at r1
          have hcallE := fun (W : World) (by' : Int) (hbb : Below wr.heap.size wr W) => HEA.out p b hmem cb' by' (fun g => Y g ∧ g < w.heap.size) W (hb.mono (src_mem (bl_tr HBR.out hbb)))
          have HPX := Lib.hid hp
          obtain ⟨p0, p1, p2, p3, YA, ym, yc, rfl⟩ := hp.sh3
          obtain ⟨e0, e1, e2, e3, e4, e5, e6, e7, rfl⟩ := hb.sh
          have HXQ := Lib.hid hxq; have HEC := Lib.hid hcallE
          have RP := Lib.hid (fun (w' : World) (hw' : Below (w.heap.size + 1) wr w') => rg_left (r1 w' hw'))
          have RA := Lib.hid (fun (w' : World) (hw' : Below (w.heap.size + 1) wr w') => rg_right (n := 5) (r1 w' hw') rfl)
          have IA := Lib.hid (show (Try.prog.info? 93).map (·.size) = some ([.int .i64 e0, .int .i64 e1, .string e2, .int .i64 e3, e4, e5, e6, e7] : List Value).length from Try.irEE)
          have IP := Lib.hid (show (Try.prog.info? 128).map (·.size) = some ([.int .i64 p0, .int .i64 p1, .string p2, .int .i64 p3, .slice YA ym yc] : List Value).length from Try.irPP)
          have HGL : Hid (g3 < wr.heap.size) := Lib.hid (Nat.lt_of_lt_of_le HG3.out HBU.out.size)
          have HSM : Hid (w.heap.size + 1 ≤ wr.heap.size) := Lib.hid (by have := HFAR.out; have := HGL.out; omega)
          have HSG : Hid (w.heap.size + 1 ≤ g3) := Lib.hid (by have := HFAR.out; omega)
          have HGB : Hid (g3 < wo.heap.size) := HG3
          have HSB : Hid (wo.heap.size ≤ wr.heap.size) := Lib.hid HBU.out.size
          have HLW : Hid (w.heap.size < wo.heap.size) := Lib.hid (by have := HFAR.out; have := HG3.out; omega)
          have hF0 : wr.cell? ⟨g3, 6, none⟩ = some (.slice AX q cX) := (cell_of_row _ _ 6 _ _ _ HKB.out).trans rfl
          have hk1 : (q : Int) < (n2 : Int) := by omega
          have hk0 : (0 : Int) ≤ (q : Int) := by omega
          have BB : ∀ w', Below (w.heap.size + 1) wr w' → w'.cell? ⟨w.heap.size, 6, none⟩ = some (.slice (some ⟨g, o, none⟩) n2 c3) := fun w' hw' => ((cell_of_row _ _ 6 _ _ _ ((hw'.block _ (Nat.lt_succ_self _)).trans HBX.out)).trans rfl : w'.cell? ⟨w.heap.size, 6, none⟩ = some v3).trans (congrArg some HV3.out)
          clear hc1 r1 hcallE hcq ec hxq hp hb hmem
          go_wp2_with fail
          refine wp_region_held_drew (S := fun w' => Below (w.heap.size + 1) wr w') (by kernel_rfl) (Below.drew (Below.refl _ _)) (fun hHeld => ?_)
          refine wpAnyH_take (i := 0) (v := ?_) rfl (by kernel_rfl) (by kernel_rfl) (by kernel_rfl) (fun _ _ _ h => h) (Or.inl ⟨by rfl, ?_⟩) hHeld ?_
          rotate_left
          · (intro wS hSw; (try dsimp only at hSw); go_simp; try with_reducible rfl)
          (try simp only [Act.put, List.getElem_toArray, List.getElem_cons_zero, List.getElem_cons_succ, List.setIfInBounds_toArray, List.set_cons_zero, List.set_cons_succ])
          refine wpAnyH_take (i := 2) (v := ?_) rfl (by kernel_rfl) (by kernel_rfl) (by kernel_rfl) (fun _ _ _ h => h) (Or.inl ⟨by rfl, ?_⟩) hHeld ?_
          rotate_left
          · (intro wS hSw; (try dsimp only at hSw); go_simp; try with_reducible rfl)
          (try simp only [Act.put, List.getElem_toArray, List.getElem_cons_zero, List.getElem_cons_succ, List.setIfInBounds_toArray, List.set_cons_zero, List.set_cons_succ])
          refine wpAnyH_take (i := 3) (v := ?_) rfl (by kernel_rfl) (by kernel_rfl) (by kernel_rfl) (fun _ _ _ h => h) (Or.inl ⟨by rfl, ?_⟩) hHeld ?_
          rotate_left
          · (intro wS hSw; (try dsimp only at hSw); go_simp; try with_reducible rfl)
          (try simp only [Act.put, List.getElem_toArray, List.getElem_cons_zero, List.getElem_cons_succ, List.setIfInBounds_toArray, List.set_cons_zero, List.set_cons_succ])
          refine wpAnyH_take (i := 4) (v := ?_) rfl (by kernel_rfl) (by kernel_rfl) (by kernel_rfl) (fun _ _ _ h => h) (Or.inl ⟨by rfl, ?_⟩) hHeld ?_
          rotate_left
          · (intro wS hSw; (try dsimp only at hSw); go_simp; try with_reducible rfl)
          (try simp only [Act.put, List.getElem_toArray, List.getElem_cons_zero, List.getElem_cons_succ, List.setIfInBounds_toArray, List.set_cons_zero, List.set_cons_succ])
          refine wpAnyH_take (i := 5) (v := ?_) rfl (by kernel_rfl) (by kernel_rfl) (by kernel_rfl) (fun _ _ _ h => h) (Or.inl ⟨by rfl, ?_⟩) hHeld ?_
          rotate_left
          · (intro wS hSw; (try dsimp only at hSw); go_simp; try with_reducible rfl)
          (try simp only [Act.put, List.getElem_toArray, List.getElem_cons_zero, List.getElem_cons_succ, List.setIfInBounds_toArray, List.set_cons_zero, List.set_cons_succ])
          refine wpAnyH_take (i := 6) (v := ?_) rfl (by kernel_rfl) (by kernel_rfl) (by kernel_rfl) (fun _ _ _ h => h) (Or.inl ⟨by rfl, ?_⟩) hHeld ?_
          rotate_left
          · (intro wS hSw; (try dsimp only at hSw); go_simp; try with_reducible rfl)
          (try simp only [Act.put, List.getElem_toArray, List.getElem_cons_zero, List.getElem_cons_succ, List.setIfInBounds_toArray, List.set_cons_zero, List.set_cons_succ])
          refine wpAnyH_take (i := 7) rfl (by kernel_rfl) (by kernel_rfl) (by kernel_rfl) (fun _ _ _ h => h) (yieldsIf_load_mid (by rfl) 128 (.tmp 54) rfl g (o + q * 13) rfl ([.int .i64 p0, .int .i64 p1, .string p2, .int .i64 p3, .slice YA ym yc]) _ RP.out Try.underlying128 rfl IP.out) hHeld ?_
          (try simp only [Act.put, List.getElem_toArray, List.getElem_cons_zero, List.getElem_cons_succ, List.setIfInBounds_toArray, List.set_cons_zero, List.set_cons_succ])
          refine wpAnyH_take (i := 8) (v := ?_) rfl (by kernel_rfl) (by kernel_rfl) (by kernel_rfl) (fun _ _ _ h => h) (Or.inl ⟨by rfl, ?_⟩) hHeld ?_
          rotate_left
          · (intro wS hSw; (try dsimp only at hSw); go_simp; try with_reducible rfl)
          (try simp only [Act.put, List.getElem_toArray, List.getElem_cons_zero, List.getElem_cons_succ, List.setIfInBounds_toArray, List.set_cons_zero, List.set_cons_succ])
          refine wpAnyH_take (i := 9) (v := ?_) rfl (by kernel_rfl) (by kernel_rfl) (by kernel_rfl) (fun _ _ _ h => h) (Or.inl ⟨by rfl, ?_⟩) hHeld ?_
          rotate_left
          · (intro wS hSw; (try dsimp only at hSw); go_simp; try with_reducible rfl)
          (try simp only [Act.put, List.getElem_toArray, List.getElem_cons_zero, List.getElem_cons_succ, List.setIfInBounds_toArray, List.set_cons_zero, List.set_cons_succ])
          refine wpAnyH_take (i := 10) (v := ?_) rfl (by kernel_rfl) (by kernel_rfl) (by kernel_rfl) (fun _ _ _ h => h) (Or.inl ⟨by rfl, ?_⟩) hHeld ?_
          rotate_left
          · (intro wS hSw; (try dsimp only at hSw); go_simp; try with_reducible rfl)
          (try simp only [Act.put, List.getElem_toArray, List.getElem_cons_zero, List.getElem_cons_succ, List.setIfInBounds_toArray, List.set_cons_zero, List.set_cons_succ])
          refine wpAnyH_take (i := 11) (v := ?_) rfl (by kernel_rfl) (by kernel_rfl) (by kernel_rfl) (fun _ _ _ h => h) (Or.inl ⟨by rfl, ?_⟩) hHeld ?_
          rotate_left
          · (intro wS hSw; (try dsimp only at hSw); go_simp; try with_reducible rfl)
          (try simp only [Act.put, List.getElem_toArray, List.getElem_cons_zero, List.getElem_cons_succ, List.setIfInBounds_toArray, List.set_cons_zero, List.set_cons_succ])
          refine wpAnyH_take (i := 12) (v := ?_) rfl (by kernel_rfl) (by kernel_rfl) (by kernel_rfl) (fun _ _ _ h => h) (Or.inl ⟨by rfl, ?_⟩) hHeld ?_
          rotate_left
          · (intro wS hSw; (try dsimp only at hSw); go_simp; try with_reducible rfl)
          (try simp only [Act.put, List.getElem_toArray, List.getElem_cons_zero, List.getElem_cons_succ, List.setIfInBounds_toArray, List.set_cons_zero, List.set_cons_succ])
          refine wpAnyH_take (i := 13) rfl (by kernel_rfl) (by kernel_rfl) (by kernel_rfl) (fun _ _ _ h => h) (yieldsIf_load_mid (by rfl) 93 (.tmp 60) rfl g (o + q * 13 + 5) rfl ([.int .i64 e0, .int .i64 e1, .string e2, .int .i64 e3, e4, e5, e6, e7]) _ RA.out Try.underlying93 rfl IA.out) hHeld ?_
          (try simp only [Act.put, List.getElem_toArray, List.getElem_cons_zero, List.getElem_cons_succ, List.setIfInBounds_toArray, List.set_cons_zero, List.set_cons_succ])
          refine wpAnyH_take (i := 14) (v := ?_) rfl (by kernel_rfl) (by kernel_rfl) (by kernel_rfl) (fun _ _ _ h => h) (Or.inl ⟨by rfl, ?_⟩) hHeld ?_
          rotate_left
          · (intro wS hSw; (try dsimp only at hSw); go_simp; try with_reducible rfl)
          (try simp only [Act.put, List.getElem_toArray, List.getElem_cons_zero, List.getElem_cons_succ, List.setIfInBounds_toArray, List.set_cons_zero, List.set_cons_succ])
          refine wpAnyH_take (i := 15) (v := ?_) rfl (by kernel_rfl) (by kernel_rfl) (by kernel_rfl) (fun _ _ _ h => h) (Or.inl ⟨by rfl, ?_⟩) hHeld ?_
          rotate_left
          · (intro wS hSw; (try dsimp only at hSw); go_simp; try with_reducible rfl)
          (try simp only [Act.put, List.getElem_toArray, List.getElem_cons_zero, List.getElem_cons_succ, List.setIfInBounds_toArray, List.set_cons_zero, List.set_cons_succ])
          refine wpAnyH_take (i := 16) (v := ?_) rfl (by kernel_rfl) (by kernel_rfl) (by kernel_rfl) (fun _ _ _ h => h) (Or.inl ⟨by rfl, ?_⟩) hHeld ?_
          rotate_left
          · (intro wS hSw; (try dsimp only at hSw); go_simp; try with_reducible rfl)
          (try simp only [Act.put, List.getElem_toArray, List.getElem_cons_zero, List.getElem_cons_succ, List.setIfInBounds_toArray, List.set_cons_zero, List.set_cons_succ])
          refine wpAnyH_ready (rs := [1, 17]) (by kernel_rfl) (by simp) ?_
          refine AllReadyH.cons rfl (fun K hK => ?_) (AllReadyH.cons rfl (fun K hK => ?_) AllReadyH.nil)
          · (try simp only [List.getElem_toArray, List.getElem_cons_zero, List.getElem_cons_succ, List.setIfInBounds_toArray, List.set_cons_zero, List.set_cons_succ])
            try go_simp
            refine hK.out _ _ ?_ (fun hHeld => ?_)
            · exact Below.drew (Below.refl _ _)
            (try simp only [Act.put, List.getElem_toArray, List.getElem_cons_zero, List.getElem_cons_succ, List.setIfInBounds_toArray, List.set_cons_zero, List.set_cons_succ])
            refine wpAnyH_ready (rs := [17]) (by kernel_rfl) (by simp) ?_
            refine AllReadyH.cons rfl (fun K hK => ?_) AllReadyH.nil
            · (try simp only [List.getElem_toArray, List.getElem_cons_zero, List.getElem_cons_succ, List.setIfInBounds_toArray, List.set_cons_zero, List.set_cons_succ])
              try go_simp
              refine (HEC.out _ _ (Below.drew (Below.refl _ _))).mono ?_
              rintro e w2 ⟨Dq, cq, rfl, hb2, hal, hT⟩
              obtain ⟨x0, x1, x2, x3, XA, xm, xc, XB, xn, xd, XC, xo, xe, XD, xp, xf, rfl⟩ := hT.sh3
              have HTw2 := Lib.hid hT; have HAL := Lib.hid hal
              have HBW : Hid (Below wr.heap.size wr w2) := Lib.hid (bl_tr (Below.drew (Below.refl _ _)) hb2)
              have hFw2 : w2.cell? ⟨g3, 6, none⟩ = some (.slice AX q cX) := (cell_of_row _ _ 6 _ _ _ (bk_below HKB.out HBW.out)).trans rfl
              clear hb2 hT hal
              try go_simp
              refine hK.out _ _ ?_ (fun hHeld => ?_)
              · exact HBW.out.mono HSM.out
              (try simp only [Act.put, List.getElem_toArray, List.getElem_cons_zero, List.getElem_cons_succ, List.setIfInBounds_toArray, List.set_cons_zero, List.set_cons_succ])
              refine wpAnyH_take (i := 18) (v := ?_) rfl (by kernel_rfl) (by kernel_rfl) (by kernel_rfl) (fun _ _ _ h => h) (Or.inl ⟨by rfl, ?_⟩) hHeld ?_
              rotate_left
              · (intro wS hSw; (try dsimp only at hSw); go_simp; try with_reducible rfl)
              (try simp only [Act.put, List.getElem_toArray, List.getElem_cons_zero, List.getElem_cons_succ, List.setIfInBounds_toArray, List.set_cons_zero, List.set_cons_succ])
              refine wpAnyH_ready (rs := [19]) (by kernel_rfl) (by simp) ?_
              refine AllReadyH.cons rfl (fun K hK => ?_) AllReadyH.nil
              · (try simp only [List.getElem_toArray, List.getElem_cons_zero, List.getElem_cons_succ, List.setIfInBounds_toArray, List.set_cons_zero, List.set_cons_succ])
                try go_simp
                refine hK.out _ _ ?_ (fun hHeld => ?_)
                · exact ((bl_al HBW.out _).mono HSM.out)
                (try simp only [Act.put, List.getElem_toArray, List.getElem_cons_zero, List.getElem_cons_succ, List.setIfInBounds_toArray, List.set_cons_zero, List.set_cons_succ])
                refine wpAnyH_ready (rs := [20]) (by kernel_rfl) (by simp) ?_
                refine AllReadyH.cons rfl (fun K hK => ?_) AllReadyH.nil
                · skip
                  refine step_append_lies _ rfl (.tmp 49) (.tmp 67) 90 rfl wo.heap.size 135 gi0 (.agg #[.int .i64 0, .int .i64 0, .string { data := #[] }, .int .i64 0, .slice none 0 0, .int .i64 0, .int .i64 0, .string { data := #[] }, .int .i64 0, .slice none 0 0, .slice none 0 0, .slice none 0 0, .slice none 0 0]) 13 200 Try.underlying90 hgi hgz0 hgzs hgzb rfl (by decide) (.slice AX q cX) q (flat q CX) rfl (HRW.out.below (GMa.mono alts) (bl_al HBW.out _)).own ⟨w2.heap.size, 0, none⟩ 1 1 [.int .i64 p0, .int .i64 p1, .string p2, .int .i64 p3, .slice YA ym yc, .int .i64 x0, .int .i64 x1, .string x2, .int .i64 x3, .slice XA xm xc, .slice XB xn xd, .slice XC xo xe, .slice XD xp xf] rfl rfl (World.news_of_block (cs := #[.int .i64 p0, .int .i64 p1, .string p2, .int .i64 p3, .slice YA ym yc, .int .i64 x0, .int .i64 x1, .string x2, .int .i64 x3, .slice XA xm xc, .slice XB xn xd, .slice XC xo xe, .slice XD xp xf]) (t := 135) (fr := (0, 0)) (heap_alloc_new w2 _)) (by simp [Value.oneCell']) (by decide) (by unfold maxLen; omega) (by omega) (by simp; have := HBW.out.size; have := HSB.out; omega) (w2.heap.size + 1) (by simp) ?_
                  intro g4 cap4 w4 hown4 hgrow4 hat4 hglt4
                  have HOW := Lib.hid hown4; have HGR := Lib.hid hgrow4; have HAT := Lib.hid hat4; clear hown4 hgrow4 hat4 hglt4
                  have HK4 : Hid (Blk w4 g3 93 #[.int .i64 kk, .int .i64 by_, .string ss, .int .i64 nn, .slice A1 n1 c1, .slice Ap np cp, .slice AX q cX, .slice Ad nd cd]) := Lib.hid ((HGR.out.block g3 (by have := HGL.out; have := HBW.out.size; simp; omega) (by intro e; have := (ownB_lt HRW.out.own e.symm).1; have := HGB.out; omega)).trans (bk_alloc (bk_below HKB.out HBW.out) _))
                  have hc4 : w4.cell? ⟨g3, 6, none⟩ = some (.slice AX q cX) := (cell_of_row _ _ 6 _ _ _ HK4.out).trans rfl
                  have hf4 : w4.frozen? ⟨g3, 6, none⟩ = false := frozen_of_row _ _ 6 _ _ HK4.out
                  refine hK.out _ _ ?_ (fun hHeld => ?_)
                  · exact (((bl_al HBW.out _).mono HSM.out)).grown HGR.out (by simp; have := HBW.out.size; have := HSM.out; omega) (fun k hk => by have := (ownB_lt HRW.out.own hk).1; have := HSG.out; have := HGB.out; omega)
                  (try simp only [Act.put, List.getElem_toArray, List.getElem_cons_zero, List.getElem_cons_succ, List.setIfInBounds_toArray, List.set_cons_zero, List.set_cons_succ])
                  refine wpAnyH_take (i := 21) (v := ?_) rfl (by kernel_rfl) (by kernel_rfl) (by kernel_rfl) (fun _ _ _ h => h) (Or.inl ⟨by rfl, ?_⟩) hHeld ?_
                  rotate_left
                  · (intro wS hSw; (try dsimp only at hSw); go_simp; try with_reducible rfl)
                  (try simp only [Act.put, List.getElem_toArray, List.getElem_cons_zero, List.getElem_cons_succ, List.setIfInBounds_toArray, List.set_cons_zero, List.set_cons_succ])
                  refine wpAnyH_ready (rs := [22]) (by kernel_rfl) (by simp) ?_
                  refine AllReadyH.cons rfl (fun K hK => ?_) AllReadyH.nil
                  · (try simp only [List.getElem_toArray, List.getElem_cons_zero, List.getElem_cons_succ, List.setIfInBounds_toArray, List.set_cons_zero, List.set_cons_succ])
                    try go_simp
                    refine hK.out _ _ ?_ (fun hHeld => ?_)
                    · exact ((((bl_al HBW.out _).mono HSM.out)).grown HGR.out (by simp; have := HBW.out.size; have := HSM.out; omega) (fun k hk => by have := (ownB_lt HRW.out.own hk).1; have := HSG.out; have := HGB.out; omega)).setCell HSG.out _
                    (try simp only [Act.put, List.getElem_toArray, List.getElem_cons_zero, List.getElem_cons_succ, List.setIfInBounds_toArray, List.set_cons_zero, List.set_cons_succ])
                    refine wpAnyH_done (by kernel_rfl) ?_ _
                    go_wp2_with fail
                    go_roundg (n2 - (q + 1))
                    case measure => omega
                    case rel =>
                      have HBQ : Hid (Below w.heap.size w w2) := Lib.hid (bl_tr HBR.out HBW.out)
                      have hlw := HLW.out
                      have hrp := RowX.pushZ (GMa.mono alts) (w := wr) (w2 := w2.alloc (.cells #[.int .i64 p0, .int .i64 p1, .string p2, .int .i64 p3, .slice YA ym yc, .int .i64 x0, .int .i64 x1, .string x2, .int .i64 x3, .slice XA xm xc, .slice XB xn xd, .slice XC xo xe, .slice XD xp xf] 135)) (Z := fun g => (Y g ∧ g < w.heap.size) ∨ wr.heap.size ≤ g) HRW.out (bl_al HBW.out _) (fun g hg => by rcases hg with hg | hg; exact ⟨.inl hg, fun e => by have := (ownB_lt HRW.out.own e.symm).1; omega⟩; exact ⟨.inr (Nat.le_trans HSB.out hg), fun e => by have := (ownB_lt HRW.out.own e.symm).2; omega⟩) ⟨hql, .mk p Dq, by rw [← HXQ.out]; exact ⟨rfl, HAL.out⟩, .mk _ _ _ _ (HPX.out.mono (memX_le_X fun g hg hx => ⟨.inl ⟨hx, hg⟩, (Below.heap_alloc w2 _ g (by have := HBQ.out.size; omega)).trans (HBQ.out.block g hg)⟩)) (HTw2.out.mono (memX_le_X fun g hg hx => ⟨hx, Below.heap_alloc w2 _ g hg⟩))⟩ rfl HOW.out HGR.out (by have := HAT.out; simpa using this)
                      refine ⟨q + 1, by omega, rfl, by go_num, Lib.hid ⟨?_, some ⟨g4, 0, none⟩, cap4, _, ?_, RowX.same (GMa.mono alts) hrp (fun k hk hx => Below.heap_setCell w4 _ _ k ?_)⟩⟩
                      · exact But.cell (HBU.out.trans (But.of ((bl_al HBW.out _).mono HSB.out |>.grown HGR.out (by simp; have := HBW.out.size; have := HSB.out; omega) (fun k hk => (ownB_lt HRW.out.own hk).1)))) _ _
                      · exact (heap_setCell_same w4 g3 6 _ _ _ HK4.out).trans rfl
                      · have := HGB.out
                        have := HFAR.out
                        rcases hx with (hx | hx) | hx
                        · show k ≠ g3; omega
                        · show k ≠ g3; omega
                        · have := (ownB_lt hrp.own hx.symm).1; show k ≠ g3; omega
          · (try simp only [List.getElem_toArray, List.getElem_cons_zero, List.getElem_cons_succ, List.setIfInBounds_toArray, List.set_cons_zero, List.set_cons_succ])
            try go_simp
            refine (HEC.out _ _ (Below.drew (Below.refl _ _))).mono ?_
            rintro e w2 ⟨Dq, cq, rfl, hb2, hal, hT⟩
            obtain ⟨x0, x1, x2, x3, XA, xm, xc, XB, xn, xd, XC, xo, xe, XD, xp, xf, rfl⟩ := hT.sh3
            have HTw2 := Lib.hid hT; have HAL := Lib.hid hal
            have HBW : Hid (Below wr.heap.size wr w2) := Lib.hid (bl_tr (Below.drew (Below.refl _ _)) hb2)
            have hFw2 : w2.cell? ⟨g3, 6, none⟩ = some (.slice AX q cX) := (cell_of_row _ _ 6 _ _ _ (bk_below HKB.out HBW.out)).trans rfl
            clear hb2 hT hal
            try go_simp
            refine hK.out _ _ ?_ (fun hHeld => ?_)
            · exact HBW.out.mono HSM.out
            (try simp only [Act.put, List.getElem_toArray, List.getElem_cons_zero, List.getElem_cons_succ, List.setIfInBounds_toArray, List.set_cons_zero, List.set_cons_succ])
            refine wpAnyH_take (i := 18) (v := ?_) rfl (by kernel_rfl) (by kernel_rfl) (by kernel_rfl) (fun _ _ _ h => h) (Or.inl ⟨by rfl, ?_⟩) hHeld ?_
            rotate_left
            · (intro wS hSw; (try dsimp only at hSw); go_simp; try with_reducible rfl)
            (try simp only [Act.put, List.getElem_toArray, List.getElem_cons_zero, List.getElem_cons_succ, List.setIfInBounds_toArray, List.set_cons_zero, List.set_cons_succ])
            refine wpAnyH_ready (rs := [1, 19]) (by kernel_rfl) (by simp) ?_
            refine AllReadyH.cons rfl (fun K hK => ?_) (AllReadyH.cons rfl (fun K hK => ?_) AllReadyH.nil)
            · (try simp only [List.getElem_toArray, List.getElem_cons_zero, List.getElem_cons_succ, List.setIfInBounds_toArray, List.set_cons_zero, List.set_cons_succ])
              try go_simp
              refine hK.out _ _ ?_ (fun hHeld => ?_)
              · exact HBW.out.mono HSM.out
              (try simp only [Act.put, List.getElem_toArray, List.getElem_cons_zero, List.getElem_cons_succ, List.setIfInBounds_toArray, List.set_cons_zero, List.set_cons_succ])
              refine wpAnyH_ready (rs := [19]) (by kernel_rfl) (by simp) ?_
              refine AllReadyH.cons rfl (fun K hK => ?_) AllReadyH.nil
              · (try simp only [List.getElem_toArray, List.getElem_cons_zero, List.getElem_cons_succ, List.setIfInBounds_toArray, List.set_cons_zero, List.set_cons_succ])
                try go_simp
                refine hK.out _ _ ?_ (fun hHeld => ?_)
                · exact ((bl_al HBW.out _).mono HSM.out)
                (try simp only [Act.put, List.getElem_toArray, List.getElem_cons_zero, List.getElem_cons_succ, List.setIfInBounds_toArray, List.set_cons_zero, List.set_cons_succ])
                refine wpAnyH_ready (rs := [20]) (by kernel_rfl) (by simp) ?_
                refine AllReadyH.cons rfl (fun K hK => ?_) AllReadyH.nil
                · skip
                  refine step_append_lies _ rfl (.tmp 49) (.tmp 67) 90 rfl wo.heap.size 135 gi0 (.agg #[.int .i64 0, .int .i64 0, .string { data := #[] }, .int .i64 0, .slice none 0 0, .int .i64 0, .int .i64 0, .string { data := #[] }, .int .i64 0, .slice none 0 0, .slice none 0 0, .slice none 0 0, .slice none 0 0]) 13 200 Try.underlying90 hgi hgz0 hgzs hgzb rfl (by decide) (.slice AX q cX) q (flat q CX) rfl (HRW.out.below (GMa.mono alts) (bl_al HBW.out _)).own ⟨w2.heap.size, 0, none⟩ 1 1 [.int .i64 p0, .int .i64 p1, .string p2, .int .i64 p3, .slice YA ym yc, .int .i64 x0, .int .i64 x1, .string x2, .int .i64 x3, .slice XA xm xc, .slice XB xn xd, .slice XC xo xe, .slice XD xp xf] rfl rfl (World.news_of_block (cs := #[.int .i64 p0, .int .i64 p1, .string p2, .int .i64 p3, .slice YA ym yc, .int .i64 x0, .int .i64 x1, .string x2, .int .i64 x3, .slice XA xm xc, .slice XB xn xd, .slice XC xo xe, .slice XD xp xf]) (t := 135) (fr := (0, 0)) (heap_alloc_new w2 _)) (by simp [Value.oneCell']) (by decide) (by unfold maxLen; omega) (by omega) (by simp; have := HBW.out.size; have := HSB.out; omega) (w2.heap.size + 1) (by simp) ?_
                  intro g4 cap4 w4 hown4 hgrow4 hat4 hglt4
                  have HOW := Lib.hid hown4; have HGR := Lib.hid hgrow4; have HAT := Lib.hid hat4; clear hown4 hgrow4 hat4 hglt4
                  have HK4 : Hid (Blk w4 g3 93 #[.int .i64 kk, .int .i64 by_, .string ss, .int .i64 nn, .slice A1 n1 c1, .slice Ap np cp, .slice AX q cX, .slice Ad nd cd]) := Lib.hid ((HGR.out.block g3 (by have := HGL.out; have := HBW.out.size; simp; omega) (by intro e; have := (ownB_lt HRW.out.own e.symm).1; have := HGB.out; omega)).trans (bk_alloc (bk_below HKB.out HBW.out) _))
                  have hc4 : w4.cell? ⟨g3, 6, none⟩ = some (.slice AX q cX) := (cell_of_row _ _ 6 _ _ _ HK4.out).trans rfl
                  have hf4 : w4.frozen? ⟨g3, 6, none⟩ = false := frozen_of_row _ _ 6 _ _ HK4.out
                  refine hK.out _ _ ?_ (fun hHeld => ?_)
                  · exact (((bl_al HBW.out _).mono HSM.out)).grown HGR.out (by simp; have := HBW.out.size; have := HSM.out; omega) (fun k hk => by have := (ownB_lt HRW.out.own hk).1; have := HSG.out; have := HGB.out; omega)
                  (try simp only [Act.put, List.getElem_toArray, List.getElem_cons_zero, List.getElem_cons_succ, List.setIfInBounds_toArray, List.set_cons_zero, List.set_cons_succ])
                  refine wpAnyH_take (i := 21) (v := ?_) rfl (by kernel_rfl) (by kernel_rfl) (by kernel_rfl) (fun _ _ _ h => h) (Or.inl ⟨by rfl, ?_⟩) hHeld ?_
                  rotate_left
                  · (intro wS hSw; (try dsimp only at hSw); go_simp; try with_reducible rfl)
                  (try simp only [Act.put, List.getElem_toArray, List.getElem_cons_zero, List.getElem_cons_succ, List.setIfInBounds_toArray, List.set_cons_zero, List.set_cons_succ])
                  refine wpAnyH_ready (rs := [22]) (by kernel_rfl) (by simp) ?_
                  refine AllReadyH.cons rfl (fun K hK => ?_) AllReadyH.nil
                  · (try simp only [List.getElem_toArray, List.getElem_cons_zero, List.getElem_cons_succ, List.setIfInBounds_toArray, List.set_cons_zero, List.set_cons_succ])
                    try go_simp
                    refine hK.out _ _ ?_ (fun hHeld => ?_)
                    · exact ((((bl_al HBW.out _).mono HSM.out)).grown HGR.out (by simp; have := HBW.out.size; have := HSM.out; omega) (fun k hk => by have := (ownB_lt HRW.out.own hk).1; have := HSG.out; have := HGB.out; omega)).setCell HSG.out _
                    (try simp only [Act.put, List.getElem_toArray, List.getElem_cons_zero, List.getElem_cons_succ, List.setIfInBounds_toArray, List.set_cons_zero, List.set_cons_succ])
                    refine wpAnyH_done (by kernel_rfl) ?_ _
                    go_wp2_with fail
                    go_roundg (n2 - (q + 1))
                    case measure => omega
                    case rel =>
                      have HBQ : Hid (Below w.heap.size w w2) := Lib.hid (bl_tr HBR.out HBW.out)
                      have hlw := HLW.out
                      have hrp := RowX.pushZ (GMa.mono alts) (w := wr) (w2 := w2.alloc (.cells #[.int .i64 p0, .int .i64 p1, .string p2, .int .i64 p3, .slice YA ym yc, .int .i64 x0, .int .i64 x1, .string x2, .int .i64 x3, .slice XA xm xc, .slice XB xn xd, .slice XC xo xe, .slice XD xp xf] 135)) (Z := fun g => (Y g ∧ g < w.heap.size) ∨ wr.heap.size ≤ g) HRW.out (bl_al HBW.out _) (fun g hg => by rcases hg with hg | hg; exact ⟨.inl hg, fun e => by have := (ownB_lt HRW.out.own e.symm).1; omega⟩; exact ⟨.inr (Nat.le_trans HSB.out hg), fun e => by have := (ownB_lt HRW.out.own e.symm).2; omega⟩) ⟨hql, .mk p Dq, by rw [← HXQ.out]; exact ⟨rfl, HAL.out⟩, .mk _ _ _ _ (HPX.out.mono (memX_le_X fun g hg hx => ⟨.inl ⟨hx, hg⟩, (Below.heap_alloc w2 _ g (by have := HBQ.out.size; omega)).trans (HBQ.out.block g hg)⟩)) (HTw2.out.mono (memX_le_X fun g hg hx => ⟨hx, Below.heap_alloc w2 _ g hg⟩))⟩ rfl HOW.out HGR.out (by have := HAT.out; simpa using this)
                      refine ⟨q + 1, by omega, rfl, by go_num, Lib.hid ⟨?_, some ⟨g4, 0, none⟩, cap4, _, ?_, RowX.same (GMa.mono alts) hrp (fun k hk hx => Below.heap_setCell w4 _ _ k ?_)⟩⟩
                      · exact But.cell (HBU.out.trans (But.of ((bl_al HBW.out _).mono HSB.out |>.grown HGR.out (by simp; have := HBW.out.size; have := HSB.out; omega) (fun k hk => (ownB_lt HRW.out.own hk).1)))) _ _
                      · exact (heap_setCell_same w4 g3 6 _ _ _ HK4.out).trans rfl
                      · have := HGB.out
                        have := HFAR.out
                        rcases hx with (hx | hx) | hx
                        · show k ≠ g3; omega
                        · show k ≠ g3; omega
                        · have := (ownB_lt hrp.own hx.symm).1; show k ≠ g3; omega
            · (try simp only [List.getElem_toArray, List.getElem_cons_zero, List.getElem_cons_succ, List.setIfInBounds_toArray, List.set_cons_zero, List.set_cons_succ])
              try go_simp
              have hF5 : (w2.alloc (.cells #[.int .i64 p0, .int .i64 p1, .string p2, .int .i64 p3, .slice YA ym yc, .int .i64 x0, .int .i64 x1, .string x2, .int .i64 x3, .slice XA xm xc, .slice XB xn xd, .slice XC xo xe, .slice XD xp xf] 135)).cell? ⟨g3, 6, none⟩ = some (.slice AX q cX) := (cell_of_row _ _ 6 _ _ _ (bk_alloc (bk_below HKB.out HBW.out) _)).trans rfl
              try go_simp
              refine hK.out _ _ ?_ (fun hHeld => ?_)
              · exact ((bl_al HBW.out _).mono HSM.out)
              (try simp only [Act.put, List.getElem_toArray, List.getElem_cons_zero, List.getElem_cons_succ, List.setIfInBounds_toArray, List.set_cons_zero, List.set_cons_succ])
              refine wpAnyH_ready (rs := [1]) (by kernel_rfl) (by simp) ?_
              refine AllReadyH.cons rfl (fun K hK => ?_) AllReadyH.nil
              · (try simp only [List.getElem_toArray, List.getElem_cons_zero, List.getElem_cons_succ, List.setIfInBounds_toArray, List.set_cons_zero, List.set_cons_succ])
                try go_simp
                refine hK.out _ _ ?_ (fun hHeld => ?_)
                · exact ((bl_al HBW.out _).mono HSM.out)
                (try simp only [Act.put, List.getElem_toArray, List.getElem_cons_zero, List.getElem_cons_succ, List.setIfInBounds_toArray, List.set_cons_zero, List.set_cons_succ])
                refine wpAnyH_ready (rs := [20]) (by kernel_rfl) (by simp) ?_
                refine AllReadyH.cons rfl (fun K hK => ?_) AllReadyH.nil
                · skip
                  refine step_append_lies _ rfl (.tmp 49) (.tmp 67) 90 rfl wo.heap.size 135 gi0 (.agg #[.int .i64 0, .int .i64 0, .string { data := #[] }, .int .i64 0, .slice none 0 0, .int .i64 0, .int .i64 0, .string { data := #[] }, .int .i64 0, .slice none 0 0, .slice none 0 0, .slice none 0 0, .slice none 0 0]) 13 200 Try.underlying90 hgi hgz0 hgzs hgzb rfl (by decide) (.slice AX q cX) q (flat q CX) rfl (HRW.out.below (GMa.mono alts) (bl_al HBW.out _)).own ⟨w2.heap.size, 0, none⟩ 1 1 [.int .i64 p0, .int .i64 p1, .string p2, .int .i64 p3, .slice YA ym yc, .int .i64 x0, .int .i64 x1, .string x2, .int .i64 x3, .slice XA xm xc, .slice XB xn xd, .slice XC xo xe, .slice XD xp xf] rfl rfl (World.news_of_block (cs := #[.int .i64 p0, .int .i64 p1, .string p2, .int .i64 p3, .slice YA ym yc, .int .i64 x0, .int .i64 x1, .string x2, .int .i64 x3, .slice XA xm xc, .slice XB xn xd, .slice XC xo xe, .slice XD xp xf]) (t := 135) (fr := (0, 0)) (heap_alloc_new w2 _)) (by simp [Value.oneCell']) (by decide) (by unfold maxLen; omega) (by omega) (by simp; have := HBW.out.size; have := HSB.out; omega) (w2.heap.size + 1) (by simp) ?_
                  intro g4 cap4 w4 hown4 hgrow4 hat4 hglt4
                  have HOW := Lib.hid hown4; have HGR := Lib.hid hgrow4; have HAT := Lib.hid hat4; clear hown4 hgrow4 hat4 hglt4
                  have HK4 : Hid (Blk w4 g3 93 #[.int .i64 kk, .int .i64 by_, .string ss, .int .i64 nn, .slice A1 n1 c1, .slice Ap np cp, .slice AX q cX, .slice Ad nd cd]) := Lib.hid ((HGR.out.block g3 (by have := HGL.out; have := HBW.out.size; simp; omega) (by intro e; have := (ownB_lt HRW.out.own e.symm).1; have := HGB.out; omega)).trans (bk_alloc (bk_below HKB.out HBW.out) _))
                  have hc4 : w4.cell? ⟨g3, 6, none⟩ = some (.slice AX q cX) := (cell_of_row _ _ 6 _ _ _ HK4.out).trans rfl
                  have hf4 : w4.frozen? ⟨g3, 6, none⟩ = false := frozen_of_row _ _ 6 _ _ HK4.out
                  refine hK.out _ _ ?_ (fun hHeld => ?_)
                  · exact (((bl_al HBW.out _).mono HSM.out)).grown HGR.out (by simp; have := HBW.out.size; have := HSM.out; omega) (fun k hk => by have := (ownB_lt HRW.out.own hk).1; have := HSG.out; have := HGB.out; omega)
                  (try simp only [Act.put, List.getElem_toArray, List.getElem_cons_zero, List.getElem_cons_succ, List.setIfInBounds_toArray, List.set_cons_zero, List.set_cons_succ])
                  refine wpAnyH_take (i := 21) (v := ?_) rfl (by kernel_rfl) (by kernel_rfl) (by kernel_rfl) (fun _ _ _ h => h) (Or.inl ⟨by rfl, ?_⟩) hHeld ?_
                  rotate_left
                  · (intro wS hSw; (try dsimp only at hSw); go_simp; try with_reducible rfl)
                  (try simp only [Act.put, List.getElem_toArray, List.getElem_cons_zero, List.getElem_cons_succ, List.setIfInBounds_toArray, List.set_cons_zero, List.set_cons_succ])
                  refine wpAnyH_ready (rs := [22]) (by kernel_rfl) (by simp) ?_
                  refine AllReadyH.cons rfl (fun K hK => ?_) AllReadyH.nil
                  · (try simp only [List.getElem_toArray, List.getElem_cons_zero, List.getElem_cons_succ, List.setIfInBounds_toArray, List.set_cons_zero, List.set_cons_succ])
                    try go_simp
                    refine hK.out _ _ ?_ (fun hHeld => ?_)
                    · exact ((((bl_al HBW.out _).mono HSM.out)).grown HGR.out (by simp; have := HBW.out.size; have := HSM.out; omega) (fun k hk => by have := (ownB_lt HRW.out.own hk).1; have := HSG.out; have := HGB.out; omega)).setCell HSG.out _
                    (try simp only [Act.put, List.getElem_toArray, List.getElem_cons_zero, List.getElem_cons_succ, List.setIfInBounds_toArray, List.set_cons_zero, List.set_cons_succ])
                    refine wpAnyH_done (by kernel_rfl) ?_ _
                    go_wp2_with fail
                    go_roundg (n2 - (q + 1))
                    case measure => omega
                    case rel =>
                      have HBQ : Hid (Below w.heap.size w w2) := Lib.hid (bl_tr HBR.out HBW.out)
                      have hlw := HLW.out
                      have hrp := RowX.pushZ (GMa.mono alts) (w := wr) (w2 := w2.alloc (.cells #[.int .i64 p0, .int .i64 p1, .string p2, .int .i64 p3, .slice YA ym yc, .int .i64 x0, .int .i64 x1, .string x2, .int .i64 x3, .slice XA xm xc, .slice XB xn xd, .slice XC xo xe, .slice XD xp xf] 135)) (Z := fun g => (Y g ∧ g < w.heap.size) ∨ wr.heap.size ≤ g) HRW.out (bl_al HBW.out _) (fun g hg => by rcases hg with hg | hg; exact ⟨.inl hg, fun e => by have := (ownB_lt HRW.out.own e.symm).1; omega⟩; exact ⟨.inr (Nat.le_trans HSB.out hg), fun e => by have := (ownB_lt HRW.out.own e.symm).2; omega⟩) ⟨hql, .mk p Dq, by rw [← HXQ.out]; exact ⟨rfl, HAL.out⟩, .mk _ _ _ _ (HPX.out.mono (memX_le_X fun g hg hx => ⟨.inl ⟨hx, hg⟩, (Below.heap_alloc w2 _ g (by have := HBQ.out.size; omega)).trans (HBQ.out.block g hg)⟩)) (HTw2.out.mono (memX_le_X fun g hg hx => ⟨hx, Below.heap_alloc w2 _ g hg⟩))⟩ rfl HOW.out HGR.out (by have := HAT.out; simpa using this)
                      refine ⟨q + 1, by omega, rfl, by go_num, Lib.hid ⟨?_, some ⟨g4, 0, none⟩, cap4, _, ?_, RowX.same (GMa.mono alts) hrp (fun k hk hx => Below.heap_setCell w4 _ _ k ?_)⟩⟩
                      · exact But.cell (HBU.out.trans (But.of ((bl_al HBW.out _).mono HSB.out |>.grown HGR.out (by simp; have := HBW.out.size; have := HSB.out; omega) (fun k hk => (ownB_lt HRW.out.own hk).1)))) _ _
                      · exact (heap_setCell_same w4 g3 6 _ _ _ HK4.out).trans rfl
                      · have := HGB.out
                        have := HFAR.out
                        rcases hx with (hx | hx) | hx
                        · show k ≠ g3; omega
                        · show k ≠ g3; omega
                        · have := (ownB_lt hrp.own hx.symm).1; show k ≠ g3; omega
        · obtain rfl : n2 = q := by omega
          have RR := Lib.hid (show wr.rangeAt g3 0 [.int .i64 kk, .int .i64 by_, .string ss, .int .i64 nn, .slice A1 n1 c1, .slice Ap np cp, .slice AX n2 cX, .slice Ad nd cd] from fun j v hv => by rw [Nat.zero_add, cell_of_row wr _ _ _ _ _ HKB.out, List.getElem?_toArray]; exact hv)
          have IT := Lib.hid (show (Try.prog.info? 93).map (·.size) = some ([.int .i64 kk, .int .i64 by_, .string ss, .int .i64 nn, .slice A1 n1 c1, .slice Ap np cp, .slice AX n2 cX, .slice Ad nd cd] : List Value).length from Try.irEE)
          go_wp2_with (first | ((with_reducible refine at_ld 70 ?_); refine wpList_load_mid rfl 93 (.tmp 5) rfl g3 0 rfl [.int .i64 kk, .int .i64 by_, .string ss, .int .i64 nn, .slice A1 n1 c1, .slice Ap np cp, .slice AX n2 cX, .slice Ad nd cd] _ RR.out Try.underlying93 rfl IT.out ?_) | ((with_reducible refine at_st 4 70 ?_); refine wpList_store_row rfl 93 (.tmp 4) (.tmp 70) rfl (w.heap.size + 1) rfl #[.int .i64 kk, .int .i64 by_, .string ss, .int .i64 nn, .slice A1 n1 c1, .slice Ap np cp, .slice AX n2 cX, .slice Ad nd cd] rfl _ HRS.out Try.irEE rfl (by simp [Value.oneCell']) ?_))
          have hw3 : Blk (wr.setRow (w.heap.size + 1) #[.int .i64 kk, .int .i64 by_, .string ss, .int .i64 nn, .slice A1 n1 c1, .slice Ap np cp, .slice AX n2 cX, .slice Ad nd cd]) (w.heap.size + 1) 93 #[.int .i64 kk, .int .i64 by_, .string ss, .int .i64 nn, .slice A1 n1 c1, .slice Ap np cp, .slice AX n2 cX, .slice Ad nd cd] := setRow_heap _ _ _ _ _ _ HRS.out
          have hbw := below_setRow HBR.out (Nat.le_succ w.heap.size) #[.int .i64 kk, .int .i64 by_, .string ss, .int .i64 nn, .slice A1 n1 c1, .slice Ap np cp, .slice AX n2 cX, .slice Ad nd cd]
          have hfar := HFAR.out
          have hg31 := HG31.out
          have hwo := HBU1.out.size
          have hwr := HBU.out.size
          obtain ⟨args', hl1, hs1, hc1, hx1⟩ : ∃ l' : List Ex, l'.length = args.length ∧ sExs l' = sExs args ∧ cntExs l' = cntExs args ∧ ExsV (memX wo (fun g => (Y g ∧ g < w.heap.size) ∨ wc.heap.size ≤ g)) l' (.slice A1 n1 c1) := by
            have h := HRW1.out
            rw [show n1 = args.length from HN.out] at h ⊢
            exact moved_exs h (fun _ h => h) (fun _ h _ => .inr h)
          obtain ⟨alts', hl2, hs2, hc2, hx2⟩ : ∃ l' : List Al, l'.length = alts.length ∧ sAls l' = sAls alts ∧ cntAls l' = cntAls alts ∧ AlsV (memX wr (fun g => (Y g ∧ g < w.heap.size) ∨ wo.heap.size ≤ g)) l' (.slice AX n2 cX) := by
            have h := HRW.out
            rw [show n2 = alts.length from HN2.out] at h ⊢
            exact moved_als h (fun _ h => h) (fun _ h _ => .inr h)
          have hex : ExsV (memX (wr.setRow (w.heap.size + 1) #[.int .i64 kk, .int .i64 by_, .string ss, .int .i64 nn, .slice A1 n1 c1, .slice Ap np cp, .slice AX n2 cX, .slice Ad nd cd]) (fun g => Y g ∨ w.heap.size ≤ g)) args' (.slice A1 n1 c1) := hx1.mono (memX_le_X fun g hg hx => ⟨by rcases hx with hx | hx; exact .inl hx.1; exact .inr (by omega), (setRow_other _ _ _ _ (by rcases hx with hx | hx <;> omega)).trans (HBU.out.block g hg (by rcases hx with hx | hx <;> omega))⟩)
          have hal : AlsV (memX (wr.setRow (w.heap.size + 1) #[.int .i64 kk, .int .i64 by_, .string ss, .int .i64 nn, .slice A1 n1 c1, .slice Ap np cp, .slice AX n2 cX, .slice Ad nd cd]) (fun g => Y g ∨ w.heap.size ≤ g)) alts' (.slice AX n2 cX) := hx2.mono (memX_le_X fun g hg hx => ⟨by rcases hx with hx | hx; exact .inl hx.1; exact .inr (by omega), setRow_other _ _ _ _ (by rcases hx with hx | hx <;> omega)⟩)
          have hsrc : (memX w Y).le (memX (wr.setRow (w.heap.size + 1) #[.int .i64 kk, .int .i64 by_, .string ss, .int .i64 nn, .slice A1 n1 c1, .slice Ap np cp, .slice AX n2 cX, .slice Ad nd cd]) (fun g => Y g ∨ w.heap.size ≤ g)) := memX_le_X fun g hg hx => ⟨.inl hx, (setRow_other _ _ _ _ (by omega)).trans (HBR.out.block g hg)⟩
          have hpt := HPT.out.mono' hsrc
          have hde := HDT.out.mono hsrc
          go_wp2_with fail
          refine bodyPost_ret (v := .agg #[.int .i64 kk, .int .i64 by_, .string ss, .int .i64 nn, .slice A1 n1 c1, .slice Ap np cp, .slice AX n2 cX, .slice Ad nd cd]) (results_cell_row (p := 4) (ty := 93) rfl _ _ (w.heap.size + 1) 93 #[.int .i64 kk, .int .i64 by_, .string ss, .int .i64 nn, .slice A1 n1 c1, .slice Ap np cp, .slice AX n2 cX, .slice Ad nd cd] (0, 0) _ rfl hw3 Try.underlying93 rfl Try.irEE) rfl ⟨.mk kk by_ ss nn args' pats alts' decls, _, rfl, hbw, ⟨?_, ?_⟩, ExC.of hex hpt hal hde HS.out⟩
          · rw [sEx, sEx, hs1, hs2]
          · rw [cntEx, cntEx, hc1, hc2]
theorem moved_any (D : Ex) (cs : List Value) (by_ : Int) (Y : Nat → Prop) (w : World) (hcnt : cntEx D ≤ 100000) (hD : ExC (memX w Y) D cs) : Calls Try.prog 36 #[.agg cs.toArray, .int .i64 by_] w (MovV w Y D) := by
  have h : ∀ m : Nat, ∀ (D : Ex) (cs : List Value) (by_ : Int) (Y : Nat → Prop) (w : World), SizeOf.sizeOf D < m → cntEx D ≤ 100000 → ExC (memX w Y) D cs → Calls Try.prog 36 #[.agg cs.toArray, .int .i64 by_] w (MovV w Y D) := fun m => by
    induction m with
    | zero => intro D cs by_ Y w h; omega
    | succ m ih => exact fun D cs by_ Y w hm hc hD => moved_of D cs by_ Y w hc hD (fun D' hD' hc' cs' by' Y' W hC => ih D' cs' by' Y' W (by omega) hc' hC)
  exact h _ D cs by_ Y w (Nat.lt_succ_self _) hcnt hD
end Go.Proofs.Ytfeghobfkgimfaa
