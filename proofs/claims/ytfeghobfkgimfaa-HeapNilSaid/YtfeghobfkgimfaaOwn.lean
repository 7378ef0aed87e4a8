/- own: a node whose args are copied. -/
import Derived.Test.YtfeghobfkgimfaaNilH
import Derived.Test.YtfeghobfkgimfaaActs
import Derived.Deep.AppendLies
import Derived.Deep.DrawnRows
namespace Go.Proofs.Ytfeghobfkgimfaa
open Go.RowKit Go.Shelf

theorem SlI.below {w w' : World} {A : Option Addr} {cap : Nat} {xs : List Int} (h : SlI w A cap xs) (hb : Below w.heap.size w w') : SlI w' A cap xs :=
  ⟨h.1, fun h0 => by
    obtain ⟨a, ha, hl, hc⟩ := h.2 h0
    exact ⟨a, ha, Nat.lt_of_lt_of_le hl hb.size, fun j hj => (hb.cell (p := a.add j) (by unfold Addr.add; split <;> exact hl)).trans (hc j hj)⟩⟩

set_option maxRecDepth 100000 in
set_option maxHeartbeats 1000000 in
theorem own_any (nk nn : Int) (A : Option Addr) (cap : Nat) (xs : List Int) (w : World) (hx : SlI w A cap xs) (hbig : xs.length ≤ 1048576) :
    Calls Try.prog 27 #[.agg #[.int .i64 nk, .int .i64 nn, .slice A xs.length cap]] w fun e w' => ∃ A' c', e = .returned (.agg #[.int .i64 nk, .int .i64 nn, .slice A' xs.length c']) ∧ Below w.heap.size w w' := by
  obtain ⟨i0, hi, hz0, hz1, hz2⟩ := info_parts Try.info3
  obtain ⟨X, hX⟩ : ∃ X, X = xs.length := ⟨_, rfl⟩
  rw [← hX] at hbig ⊢
  have HX := Lib.hid hX; have H := Lib.hid hx
  clear hX hx
  go_enter Try.func27, Try.ntmps27
  go_upto_region 1 with fail
  obtain ⟨W1, hW1⟩ : ∃ W1, W1 = (w.alloc (.cells #[.int .i64 nk, .int .i64 nn, .slice A X cap] 55)).alloc (.cells #[.int .i64 0, .int .i64 0, .slice none 0 0] 54) := ⟨_, rfl⟩
  rw [← hW1]
  have hb1 : Below w.heap.size w W1 := by rw [hW1]; exact below2 _ _
  have hz : W1.heap.size = w.heap.size + 1 + 1 := by rw [hW1]; simp
  have B1 : Blk W1 w.heap.size 55 #[.int .i64 nk, .int .i64 nn, .slice A X cap] := by rw [hW1]; exact (Blk.new _ _ _).alloc _
  have B2 : Blk W1 (w.heap.size + 1) 54 #[.int .i64 0, .int .i64 0, .slice none 0 0] := by
    rw [hW1]
    have h := Blk.new (w.alloc (.cells #[.int .i64 nk, .int .i64 nn, .slice A X cap] 55)) 54 #[.int .i64 0, .int .i64 0, .slice none 0 0]
    simp only [World.size_alloc] at h; exact h
  have H1 := H.out.below hb1
  have a0 := B1.cell 0; have a1 := B1.cell 1; have a2 := B1.cell 2
  simp at a0 a1 a2
  have HB1 := Lib.hid hb1; have HBB := Lib.hid B2; have HH1 := Lib.hid H1
  have hzB : w.heap.size + 1 < W1.heap.size := by omega
  have hzA : w.heap.size < W1.heap.size := by omega
  clear hW1 hb1 hz B1 B2 H1
  by_cases hX0 : X = 0
  · subst hX0
    have u1 : w.heap.size + 1 < W1.heap.size := hzB
    have s0 := HBB.out.cell 0; have s1 := HBB.out.cell 1; have s2 := HBB.out.cell 2
    have f0 := HBB.out.frozen 0; have f1 := HBB.out.frozen 1; have f2 := HBB.out.frozen 2
    simp at s0 s1 s2
    cases A with
    | none =>
      go_region
      go_wp2_with fail
      have BF := (((HBB.out.set_ 0 (.int .i64 nk)).set_ 1 (.int .i64 nn)).set_ 2 (.slice (some ⟨W1.heap.size, 0, none⟩) 0 0)).alloc (.cells #[] 3)
      have z0 := BF.cell 0; have z1 := BF.cell 1; have z2 := BF.cell 2
      simp at z0 z1 z2
      refine bodyPost_ret (v := .agg #[.int .i64 nk, .int .i64 nn, .slice (some ⟨W1.heap.size, 0, none⟩) 0 0]) (by simp [results, Try.results27, go_sem, z0, z1, z2]) rfl ⟨_, _, rfl, ?_⟩
      exact (((below_set (below_set (below_set HB1.out (by omega) _) (by omega) _) (by omega) _).alloc (by simp only [size_set]; omega) _).drew)
    | some a =>
      go_region
      go_wp2_with fail
      have BF := (((HBB.out.set_ 0 (.int .i64 nk)).set_ 1 (.int .i64 nn)).set_ 2 (.slice (some ⟨W1.heap.size, 0, none⟩) 0 0)).alloc (.cells #[] 3)
      have z0 := BF.cell 0; have z1 := BF.cell 1; have z2 := BF.cell 2
      simp at z0 z1 z2
      refine bodyPost_ret (v := .agg #[.int .i64 nk, .int .i64 nn, .slice (some ⟨W1.heap.size, 0, none⟩) 0 0]) (by simp [results, Try.results27, go_sem, z0, z1, z2]) rfl ⟨_, _, rfl, ?_⟩
      exact (((below_set (below_set (below_set HB1.out (by omega) _) (by omega) _) (by omega) _).alloc (by simp only [size_set]; omega) _).drew)
  · obtain ⟨a, rfl, ha, hxc⟩ := HH1.out.2 (by have := HX.out; omega)
    have HXC := Lib.hid hxc; clear hxc
    have s0 := HBB.out.cell 0; have s1 := HBB.out.cell 1; have s2 := HBB.out.cell 2
    simp at s0 s1 s2
    have hl2 : (xs.map (Value.int .i64)).length = X * 1 := by rw [List.length_map, HX.out, Nat.mul_one]
    have hn2 : ∀ j u, (xs.map (Value.int .i64))[j]? = some u → (W1.alloc (.cells #[] 3)).drew.cell? (a.add j) = some u := fun j u hj => by
      have hjl : j < xs.length := by have := (List.getElem?_eq_some_iff.1 hj).1; simpa using this
      rw [List.getElem?_map, List.getElem?_eq_getElem hjl] at hj
      injection hj with hj
      rw [← hj]
      exact Lib.cell?_alloc_some _ (HXC.out j hjl)
    have HL2 := Lib.hid hl2; have HN2 := Lib.hid hn2; clear hl2 hn2
    go_region_held3 (fun w' => w'.cell? ⟨w.heap.size, 0, none⟩ = some (.int .i64 nk) ∧ w'.cell? ⟨w.heap.size, 1, none⟩ = some (.int .i64 nn) ∧ w'.cell? ⟨w.heap.size, 2, none⟩ = some (.slice (some a) X cap))
      (first
        | go_keep
        | (go_split_ands
           refine ⟨?_, ?_, ?_⟩
           · (rw [hgrow2.cell_far _ (by simp; omega) (by simp [Value.ownBlock]; omega)]; assumption)
           · (rw [hgrow2.cell_far _ (by simp; omega) (by simp [Value.ownBlock]; omega)]; assumption)
           · (rw [hgrow2.cell_far _ (by simp; omega) (by simp [Value.ownBlock]; omega)]; assumption)))
      ((refine step_append_lies _ (by rfl) (.tmp 7) (.tmp 9) 22 (by rfl) W1.heap.size 3 i0 (.int .i64 0) 1 8 Try.underlying22 hi hz0 hz1 hz2 rfl (by decide) (.slice (some ⟨W1.heap.size, 0, none⟩) 0 0) 0 [] (by rfl) (own_drew (World.ownsRow_made W1 #[] 0 (Nat.le_refl _) (Nat.zero_le _) rfl)) a X cap (xs.map (Value.int .i64)) (by rfl) HL2.out HN2.out (fun u hu => by obtain ⟨x, _, rfl⟩ := List.mem_map.1 hu; rfl) (by omega) (by unfold maxLen; omega) (by omega) (by simp) _ rfl ?_; intro g cap' w2 hown2 hgrow2 hgg hglt; have BX := ((HBB.out.alloc (.cells #[] 3)).drew).grown hgrow2 (by simp [Value.ownBlock]; omega); have x0 := BX.cell 0; have x1 := BX.cell 1; have x2 := BX.cell 2; have y0 := BX.frozen 0; have y1 := BX.frozen 1; have y2 := BX.frozen 2; simp at x0 x1 x2; have HBX := Lib.hid BX; clear BX; have HOW := Lib.hid hown2; clear hown2))
    have hB2 : Below w.heap.size w w2 := ((HB1.out.alloc (by omega) (.cells #[] 3)).drew).trans ((turns_of_grown hgrow2).below (by simp; omega) (fun k hk => by simp [Value.ownBlock] at hk; omega))
    have HB2 := Lib.hid hB2
    clear hB2 hgrow2 hgg
    go_wp2_with fail
    have BF := (((HBX.out.set_ 0 (.int .i64 nk)).set_ 1 (.int .i64 nn)).set_ 2 (.slice (some ⟨g, 0, none⟩) X cap'))
    have z0 := BF.cell 0; have z1 := BF.cell 1; have z2 := BF.cell 2
    simp at z0 z1 z2
    refine bodyPost_ret (v := .agg #[.int .i64 nk, .int .i64 nn, .slice (some ⟨g, 0, none⟩) X cap']) (by simp [results, Try.results27, go_sem, z0, z1, z2]) rfl ⟨_, _, rfl, ?_⟩
    exact below_set (below_set (below_set HB2.out (by omega) _) (by omega) _) (by omega) _
end Go.Proofs.Ytfeghobfkgimfaa
