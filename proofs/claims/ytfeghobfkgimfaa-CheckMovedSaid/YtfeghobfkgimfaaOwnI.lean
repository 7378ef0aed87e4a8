/- OwnInstr: an instruction whose table is copied. -/
import Derived.Test.YtfeghobfkgimfaaSizesP
import Derived.Deep.DrawnRows
namespace Go.Proofs.Ytfeghobfkgimfaa
open Go.RowKit Go.Shelf

/-- Pairs, one number after the other. -/
def flat : List (Int × Int) → List Int
  | [] => []
  | q :: t => q.1 :: q.2 :: flat t
theorem flat_length (t : List (Int × Int)) : (flat t).length = t.length * 2 := by
  induction t with
  | nil => rfl
  | cons q t ih => simp only [flat, List.length_cons, ih]; omega
theorem flat_get : ∀ (t : List (Int × Int)) (i : Nat) (h : i < t.length), (flat t)[i * 2]? = some t[i].1 ∧ (flat t)[i * 2 + 1]? = some t[i].2 := by
  intro t
  induction t with
  | nil => intro i h; simp at h
  | cons q t ih =>
    intro i h
    cases i with
    | zero => exact ⟨rfl, rfl⟩
    | succ i =>
      have := ih i (by simpa using h)
      rw [show (i + 1) * 2 = i * 2 + 2 from by omega]
      simpa [flat] using this

/-- A table in a block of its own. -/
def TabO (W : World) (T : Option Addr) (c : Nat) (t : List (Int × Int)) : Prop :=
  t.length ≤ c ∧ (0 < t.length → ∃ g cs, T = some ⟨g, 0, none⟩ ∧ Blk W g 46 cs ∧ ∀ i (h : i < t.length), cs[i * 2]? = some (.int .i64 t[i].1) ∧ cs[i * 2 + 1]? = some (.int .i64 t[i].2))
theorem TabO.sl {W : World} {T : Option Addr} {c : Nat} {t : List (Int × Int)} (h : TabO W T c t) : TabSl W T c t :=
  ⟨h.1, fun h0 => by
    obtain ⟨g, cs, hT, hb, hc⟩ := h.2 h0
    exact ⟨g, 0, hT, hb.lt, fun i hi => by rw [Nat.zero_add, hb.cell, hb.cell]; exact hc i hi⟩⟩
theorem TabO.of_own {W : World} {B g n cap : Nat} {t : List (Int × Int)} (hn : n = t.length) (h : W.ownsRow B 46 2 (.slice (some ⟨g, 0, none⟩) n cap) n ((flat t).map (Value.int .i64))) : TabO W (some ⟨g, 0, none⟩) cap t := by
  obtain ⟨h1, h2⟩ := h
  rcases h2 with ⟨hv, _⟩ | ⟨g', cap', cur, hv, _, hb, hnc, _, _, htake⟩
  · cases hv
  · injection hv with e1 _ e3
    injection e1 with e1
    injection e1 with e1
    subst e1 e3
    refine ⟨by omega, fun _ => ⟨g, cur, rfl, hb, fun i hi => ?_⟩⟩
    have hf := flat_get t i hi
    have hg : ∀ j, j < n * 2 → cur[j]? = ((flat t).map (Value.int .i64))[j]? := fun j hj => by
      rw [← htake, List.getElem?_take_of_lt hj, Array.getElem?_toList]
    rw [hg _ (by omega), hg _ (by omega), List.getElem?_map, List.getElem?_map, hf.1, hf.2]
    exact ⟨rfl, rfl⟩

theorem Try.info46 : (Try.prog.info? 46).map (fun i => (i.zero, i.size, i.bytes)) = some (some (.agg #[.int .i64 0, .int .i64 0]), 2, 16) := by kernel_rfl
theorem addP (g o k : Nat) : (⟨g, o, none⟩ : Addr).add k = ⟨g, o + k, none⟩ := by
  unfold Addr.add; split <;> simp_all
theorem TabSl.news {w : World} {g o c : Nat} {t : List (Int × Int)} (h : TabSl w (some ⟨g, o, none⟩) c t) (h0 : 0 < t.length) : ∀ j u, ((flat t).map (Value.int .i64))[j]? = some u → w.cell? ((⟨g, o, none⟩ : Addr).add j) = some u := by
  intro j u hj
  obtain ⟨g', o', hT, _, hc⟩ := h.2 h0
  injection hT with hT
  injection hT with e1 e2
  subst e1 e2
  rw [addP]
  have hjl : j < t.length * 2 := by
    have := (List.getElem?_eq_some_iff.1 hj).1
    rw [List.length_map, flat_length] at this; exact this
  rw [List.getElem?_map] at hj
  have hi := hc (j / 2) (by omega)
  have hf := flat_get t (j / 2) (by omega)
  rcases Nat.mod_two_eq_zero_or_one j with hm | hm
  · have e : j / 2 * 2 = j := by omega
    rw [e] at hi hf
    rw [hf.1] at hj
    rw [hi.1, ← hj]; rfl
  · have e : j / 2 * 2 + 1 = j := by omega
    rw [show o + j / 2 * 2 + 1 = o + j from by omega] at hi
    rw [e] at hf
    rw [hf.2] at hj
    rw [hi.2, ← hj]; rfl

theorem ret_tab {op a b : Int} {T : Option Addr} {n m c : Nat} (h : n = m) : Ending.returned (.agg #[.int .i64 op, .int .i64 a, .int .i64 b, .slice T n c]) = .returned (.agg #[.int .i64 op, .int .i64 a, .int .i64 b, .slice T m c]) := by rw [h]

/-- OwnInstr's answer. -/
def OwnIV (x : InsD) (w : World) (e : Ending) (W : World) : Prop :=
  ∃ T c, e = .returned (.agg #[.int .i64 x.op, .int .i64 x.a, .int .i64 x.b, .slice T x.t.length c]) ∧ Below w.heap.size w W ∧ TabO W T c x.t ∧ c ≤ maxLen

set_option maxRecDepth 100000 in
set_option maxHeartbeats 1000000 in
theorem ownI_any (x : InsD) (T : Option Addr) (c : Nat) (w : World) (hT : TabSl w T c x.t) (hl : x.t.length ≤ 1000000) :
    Calls Try.prog 49 #[.agg #[.int .i64 x.op, .int .i64 x.a, .int .i64 x.b, .slice T x.t.length c]] w (OwnIV x w) := by
  obtain ⟨i0, hi, hz0, hz1, hz2⟩ := info_parts Try.info46
  obtain ⟨op, a, b, t⟩ := x
  simp only at hT hl ⊢
  have HT := Lib.hid hT
  obtain ⟨X, hX⟩ : ∃ X, X = t.length := ⟨_, rfl⟩
  rw [← hX] at hl ⊢
  have HX := Lib.hid hX
  unfold OwnIV
  clear hX hT
  go_enter Try.func49, Try.ntmps49
  go_upto_region 1 with fail
  obtain ⟨W1, hW1⟩ : ∃ W1, W1 = (w.alloc (.cells #[.int .i64 op, .int .i64 a, .int .i64 b, .slice T X c] 45)).alloc (.cells #[.int .i64 0, .int .i64 0, .int .i64 0, .slice none 0 0] 32) := ⟨_, rfl⟩
  rw [← hW1]
  have hb1 : Below w.heap.size w W1 := by rw [hW1]; exact below2 _ _
  have hz : W1.heap.size = w.heap.size + 1 + 1 := by rw [hW1]; simp
  have B1 : Blk W1 w.heap.size 45 #[.int .i64 op, .int .i64 a, .int .i64 b, .slice T X c] := by rw [hW1]; exact (Blk.new _ _ _).alloc _
  have B2 : Blk W1 (w.heap.size + 1) 32 #[.int .i64 0, .int .i64 0, .int .i64 0, .slice none 0 0] := by
    rw [hW1]
    have h := Blk.new (w.alloc (.cells #[.int .i64 op, .int .i64 a, .int .i64 b, .slice T X c] 45)) 32 #[.int .i64 0, .int .i64 0, .int .i64 0, .slice none 0 0]
    simp only [World.size_alloc] at h; exact h
  have HT1 := Lib.hid (HT.out.below hb1)
  have a0 := B1.cell 0; have a1 := B1.cell 1; have a2 := B1.cell 2; have a3 := B1.cell 3
  simp at a0 a1 a2 a3
  have HB1 := Lib.hid hb1; have HBB := Lib.hid B2
  have hzB : w.heap.size + 1 < W1.heap.size := by omega
  have hzA : w.heap.size < W1.heap.size := by omega
  clear hW1 hb1 hz B1 B2
  by_cases hX0 : X = 0
  · subst hX0
    have s0 := HBB.out.cell 0; have s1 := HBB.out.cell 1; have s2 := HBB.out.cell 2; have s3 := HBB.out.cell 3
    have f0 := HBB.out.frozen 0; have f1 := HBB.out.frozen 1; have f2 := HBB.out.frozen 2; have f3 := HBB.out.frozen 3
    simp at s0 s1 s2 s3
    have HNX : Hid (t = []) := Lib.hid (List.length_eq_zero_iff.1 HX.out.symm)
    cases T with
    | none =>
      go_region
      go_wp2_with fail
      have BF := ((((HBB.out.set_ 0 (.int .i64 op)).set_ 1 (.int .i64 a)).set_ 2 (.int .i64 b)).set_ 3 (.slice (some ⟨W1.heap.size, 0, none⟩) 0 0)).alloc (.cells #[] 46)
      have z0 := BF.cell 0; have z1 := BF.cell 1; have z2 := BF.cell 2; have z3 := BF.cell 3
      simp at z0 z1 z2 z3
      refine bodyPost_ret (v := .agg #[.int .i64 op, .int .i64 a, .int .i64 b, .slice (some ⟨W1.heap.size, 0, none⟩) 0 0]) (by simp [results, Try.results49, go_sem, z0, z1, z2, z3]) rfl ⟨_, _, ret_tab HX.out, ?_, ?_, by simp [maxLen]⟩
      · exact (((below_set (below_set (below_set (below_set HB1.out (by omega) _) (by omega) _) (by omega) _) (by omega) _).alloc (by simp only [size_set]; omega) _).drew)
      · rw [HNX.out]; exact ⟨Nat.le_refl _, fun h => absurd h (by simp)⟩
    | some ad =>
      go_region
      go_wp2_with fail
      have BF := ((((HBB.out.set_ 0 (.int .i64 op)).set_ 1 (.int .i64 a)).set_ 2 (.int .i64 b)).set_ 3 (.slice (some ⟨W1.heap.size, 0, none⟩) 0 0)).alloc (.cells #[] 46)
      have z0 := BF.cell 0; have z1 := BF.cell 1; have z2 := BF.cell 2; have z3 := BF.cell 3
      simp at z0 z1 z2 z3
      refine bodyPost_ret (v := .agg #[.int .i64 op, .int .i64 a, .int .i64 b, .slice (some ⟨W1.heap.size, 0, none⟩) 0 0]) (by simp [results, Try.results49, go_sem, z0, z1, z2, z3]) rfl ⟨_, _, ret_tab HX.out, ?_, ?_, by simp [maxLen]⟩
      · exact (((below_set (below_set (below_set (below_set HB1.out (by omega) _) (by omega) _) (by omega) _) (by omega) _).alloc (by simp only [size_set]; omega) _).drew)
      · rw [HNX.out]; exact ⟨Nat.le_refl _, fun h => absurd h (by simp)⟩
  · obtain ⟨gt, ot, rfl, hgt, _⟩ := HT1.out.2 (by have := HX.out; omega)
    have s0 := HBB.out.cell 0; have s1 := HBB.out.cell 1; have s2 := HBB.out.cell 2; have s3 := HBB.out.cell 3
    simp at s0 s1 s2 s3
    have hl2 : ((flat t).map (Value.int .i64)).length = X * 2 := by rw [List.length_map, flat_length, HX.out]
    have hT2 : TabSl (W1.alloc (.cells #[] 46)).drew (some ⟨gt, ot, none⟩) c t := HT1.out.below ((below1' _).drew)
    have hn2 := hT2.news (by have := HX.out; omega)
    have HL2 := Lib.hid hl2; have HN2 := Lib.hid hn2; clear hl2 hn2 hT2
    go_region_held3 (fun w' => w'.cell? ⟨w.heap.size, 0, none⟩ = some (.int .i64 op) ∧ w'.cell? ⟨w.heap.size, 1, none⟩ = some (.int .i64 a) ∧ w'.cell? ⟨w.heap.size, 2, none⟩ = some (.int .i64 b) ∧ w'.cell? ⟨w.heap.size, 3, none⟩ = some (.slice (some ⟨gt, ot, none⟩) X c))
      (first
        | go_keep
        | (go_split_ands
           refine ⟨?_, ?_, ?_, ?_⟩
           · (rw [hgrow2.cell_far _ (by simp; omega) (by simp [Value.ownBlock]; omega)]; assumption)
           · (rw [hgrow2.cell_far _ (by simp; omega) (by simp [Value.ownBlock]; omega)]; assumption)
           · (rw [hgrow2.cell_far _ (by simp; omega) (by simp [Value.ownBlock]; omega)]; assumption)
           · (rw [hgrow2.cell_far _ (by simp; omega) (by simp [Value.ownBlock]; omega)]; assumption)))
      ((refine step_append_lies _ (by rfl) (.tmp 9) (.tmp 11) 30 (by rfl) W1.heap.size 46 i0 (.agg #[.int .i64 0, .int .i64 0]) 2 16 Try.underlying30 hi hz0 hz1 hz2 rfl (by decide) (.slice (some ⟨W1.heap.size, 0, none⟩) 0 0) 0 [] (by rfl) (own_drew (World.ownsRow_made W1 #[] 0 (Nat.le_refl _) (Nat.zero_le _) rfl)) ⟨gt, ot, none⟩ X c ((flat t).map (Value.int .i64)) (by rfl) HL2.out HN2.out (fun u hu => by obtain ⟨x, _, rfl⟩ := List.mem_map.1 hu; rfl) (by omega) (by unfold maxLen; omega) (by omega) (by simp) _ rfl ?_; intro g cap' w2 hown2 hgrow2 hgg hglt; have BX := ((HBB.out.alloc (.cells #[] 46)).drew).grown hgrow2 (by simp [Value.ownBlock]; omega); have x0 := BX.cell 0; have x1 := BX.cell 1; have x2 := BX.cell 2; have x3 := BX.cell 3; have y0 := BX.frozen 0; have y1 := BX.frozen 1; have y2 := BX.frozen 2; have y3 := BX.frozen 3; simp at x0 x1 x2 x3; have HBX := Lib.hid BX; clear BX; have HOW := Lib.hid hown2; clear hown2))
    have hB2 : Below w.heap.size w w2 := ((HB1.out.alloc (by omega) (.cells #[] 46)).drew).trans ((turns_of_grown hgrow2).below (by simp; omega) (fun k hk => by simp [Value.ownBlock] at hk; omega))
    have HB2 := Lib.hid hB2
    have hgW : W1.heap.size ≤ g := by
      rcases hgg with e | e
      · simp [Value.ownBlock] at e; omega
      · simp at e; omega
    clear hB2 hgrow2 hgg
    go_wp2_with fail
    have BF := ((((HBX.out.set_ 0 (.int .i64 op)).set_ 1 (.int .i64 a)).set_ 2 (.int .i64 b)).set_ 3 (.slice (some ⟨g, 0, none⟩) X cap'))
    have z0 := BF.cell 0; have z1 := BF.cell 1; have z2 := BF.cell 2; have z3 := BF.cell 3
    simp at z0 z1 z2 z3
    have hcap : cap' ≤ maxLen := by
      rcases HOW.out.2 with ⟨hv, _⟩ | ⟨g', cp, cur, hv, _, _, _, hm, _⟩
      · cases hv
      · injection hv with _ _ e3; rw [e3]; exact hm
    refine bodyPost_ret (v := .agg #[.int .i64 op, .int .i64 a, .int .i64 b, .slice (some ⟨g, 0, none⟩) X cap']) (by simp [results, Try.results49, go_sem, z0, z1, z2, z3]) rfl ⟨_, _, ret_tab HX.out, ?_, ?_, hcap⟩
    · exact below_set (below_set (below_set (below_set HB2.out (by omega) _) (by omega) _) (by omega) _) (by omega) _
    · have hne : (Value.slice (some ⟨g, 0, none⟩) X cap').ownBlock ≠ some (w.heap.size + 1) := by simp [Value.ownBlock]; omega
      have hO := own_far (i := 3) (own_far (i := 2) (own_far (i := 1) (own_far (i := 0) HOW.out hne (.int .i64 op)) hne (.int .i64 a)) hne (.int .i64 b)) hne (.slice (some ⟨g, 0, none⟩) X cap')
      rw [Nat.zero_add, List.nil_append] at hO
      exact TabO.of_own HX.out hO
end Go.Proofs.Ytfeghobfkgimfaa
