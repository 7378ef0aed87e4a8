/- The document's types, copied. -/
import Derived.Test.YtfeghobfkgimfaaTreeW
import Derived.Laws.CopyOwn
namespace Go.Proofs.Ytfeghobfkgimfaa
set_option linter.unusedSimpArgs false
set_option linter.unusedVariables false
open Go.RowKit Go.Shelf

def OwnPtV (w : World) (D : Pt) (e : Ending) (w' : World) : Prop := ∃ cs, e = .returned (.agg cs.toArray) ∧ Below w.heap.size w w' ∧ PtC (memX w' (w.heap.size ≤ ·)) D cs
def OwnPtsV (w : World) (l : List Pt) (e : Ending) (w' : World) : Prop := ∃ v, e = .returned v ∧ Below w.heap.size w w' ∧ PtsV (memX w' (w.heap.size ≤ ·)) l v
theorem PtsV.mono' {m m' : Mem} (hm : m.le m') {l : List Pt} {v : Value} (h : PtsV m l v) : PtsV m' l v := by
  obtain ⟨A, c, C, rfl, hc, hA, hC⟩ := h
  exact ⟨A, c, C, rfl, hc, hA.mono hm (fun i hi => (hC i hi).len), fun i hi => (hC i hi).mono hm⟩

theorem Try.irPP : (Try.prog.info? 128).map (·.size) = some 5 := by kernel_rfl
set_option maxRecDepth 100000 in
set_option maxHeartbeats 4000000 in
theorem ownPt_of (D : Pt) (cs : List Value) (w : World) (hD : PtC (mem w) D cs)
    (ih : ∀ k a s n l, D = .mk k a s n l → ∀ v W, PtsV (mem W) l v → Calls Try.prog 68 #[v] W (OwnPtsV W l)) :
    Calls Try.prog 70 #[.agg cs.toArray] w (OwnPtV w D) := by
  obtain ⟨k, a, s, n, l⟩ := D
  have hs := hD.size
  obtain ⟨v, rfl, hv⟩ := hD.inv
  have hcall := fun (W : World) (hb : Below w.heap.size w W) => ih k a s n l rfl v W (hv.mono' (mem_below hb))
  have HCQ := Lib.hid hcall; have HS := Lib.hid hs
  clear hcall hs hv hD ih
  have hb0 := bl2 w (.cells #[.int .i64 k, .int .i64 a, .string s, .int .i64 n, v] 131) (.cells #[.int .i64 0, .int .i64 0, .string { data := #[] }, .int .i64 0, .slice none 0 0] 128)
  have hk1 : Blk ((w.alloc (.cells #[.int .i64 k, .int .i64 a, .string s, .int .i64 n, v] 131)).alloc (.cells #[.int .i64 0, .int .i64 0, .string { data := #[] }, .int .i64 0, .slice none 0 0] 128)) w.heap.size 131 #[.int .i64 k, .int .i64 a, .string s, .int .i64 n, v] := bk_alloc (bk_new _ _ _ _ rfl) _
  have hk2 : Blk ((w.alloc (.cells #[.int .i64 k, .int .i64 a, .string s, .int .i64 n, v] 131)).alloc (.cells #[.int .i64 0, .int .i64 0, .string { data := #[] }, .int .i64 0, .slice none 0 0] 128)) (w.heap.size + 1) 128 #[.int .i64 0, .int .i64 0, .string { data := #[] }, .int .i64 0, .slice none 0 0] := bk_new _ _ _ _ (by simp)
  go_enter Try.func70, Try.ntmps70
  go_wp2_with fail
  obtain ⟨W0, hW0⟩ : ∃ W0, ((w.alloc (.cells #[.int .i64 k, .int .i64 a, .string s, .int .i64 n, v] 131)).alloc (.cells #[.int .i64 0, .int .i64 0, .string { data := #[] }, .int .i64 0, .slice none 0 0] 128)) = W0 := ⟨_, rfl⟩
  rw [hW0] at hb0 hk1 hk2 ⊢
  have B0 : ∀ w', Below (w.heap.size + 1) W0 w' → w'.cell? ⟨w.heap.size, 0, none⟩ = some (.int .i64 k) := fun w' hw' => (cell_of_row _ _ 0 _ _ _ ((hw'.block w.heap.size (Nat.lt_succ_self _)).trans hk1)).trans rfl
  have B1 : ∀ w', Below (w.heap.size + 1) W0 w' → w'.cell? ⟨w.heap.size, 1, none⟩ = some (.int .i64 a) := fun w' hw' => (cell_of_row _ _ 1 _ _ _ ((hw'.block w.heap.size (Nat.lt_succ_self _)).trans hk1)).trans rfl
  have B2 : ∀ w', Below (w.heap.size + 1) W0 w' → w'.cell? ⟨w.heap.size, 2, none⟩ = some (.string s) := fun w' hw' => (cell_of_row _ _ 2 _ _ _ ((hw'.block w.heap.size (Nat.lt_succ_self _)).trans hk1)).trans rfl
  have B3 : ∀ w', Below (w.heap.size + 1) W0 w' → w'.cell? ⟨w.heap.size, 3, none⟩ = some (.int .i64 n) := fun w' hw' => (cell_of_row _ _ 3 _ _ _ ((hw'.block w.heap.size (Nat.lt_succ_self _)).trans hk1)).trans rfl
  have B4 : ∀ w', Below (w.heap.size + 1) W0 w' → w'.cell? ⟨w.heap.size, 4, none⟩ = some v := fun w' hw' => (cell_of_row _ _ 4 _ _ _ ((hw'.block w.heap.size (Nat.lt_succ_self _)).trans hk1)).trans rfl
  have HB0 := Lib.hid hb0; have HK2 := Lib.hid hk2; have HSZ : Hid (W0.heap.size = w.heap.size + 2) := Lib.hid (by rw [← hW0]; simp)
  clear hb0 hk1 hk2 hW0
  try go_wp2_with fail
  refine wp_region_held_drew (S := fun w' => Below (w.heap.size + 1) W0 w') (by kernel_rfl) (Below.drew (Below.refl _ _)) (fun hHeld => ?_)
  refine wpAnyH_take (i := 0) (v := ?_) rfl (by kernel_rfl) (by kernel_rfl) (by kernel_rfl) (fun _ _ _ h => h) (Or.inl ⟨by rfl, ?_⟩) hHeld ?_
  rotate_left
  · (intro wS hSw; (try dsimp only at hSw); go_simp; try with_reducible rfl)
  (try simp only [Act.put, List.getElem_toArray, List.getElem_cons_zero, List.getElem_cons_succ, List.setIfInBounds_toArray, List.set_cons_zero, List.set_cons_succ])
  refine wpAnyH_take (i := 1) (v := ?_) rfl (by kernel_rfl) (by kernel_rfl) (by kernel_rfl) (fun _ _ _ h => h) (Or.inl ⟨by rfl, ?_⟩) hHeld ?_
  rotate_left
  · (intro wS hSw; (try dsimp only at hSw); go_simp; try with_reducible rfl)
  (try simp only [Act.put, List.getElem_toArray, List.getElem_cons_zero, List.getElem_cons_succ, List.setIfInBounds_toArray, List.set_cons_zero, List.set_cons_succ])
  refine wpAnyH_take (i := 2) (v := ?_) rfl (by kernel_rfl) (by kernel_rfl) (by kernel_rfl) (fun _ _ _ h => h) (Or.inl ⟨by rfl, ?_⟩) hHeld ?_
  rotate_left
  · (intro wS hSw; (try dsimp only at hSw); go_simp; try with_reducible rfl)
  (try simp only [Act.put, List.getElem_toArray, List.getElem_cons_zero, List.getElem_cons_succ, List.setIfInBounds_toArray, List.set_cons_zero, List.set_cons_succ])
  refine wpAnyH_take (i := 3) (v := ?_) rfl (by kernel_rfl) (by kernel_rfl) (by kernel_rfl) (fun _ _ _ h => h) (Or.inl ⟨by rfl, ?_⟩) hHeld ?_
  rotate_left
  · (intro wS hSw; (try dsimp only at hSw); go_simp; try with_reducible rfl)
  (try simp only [Act.put, List.getElem_toArray, List.getElem_cons_zero, List.getElem_cons_succ, List.setIfInBounds_toArray, List.set_cons_zero, List.set_cons_succ])
  refine wpAnyH_take (i := 4) (v := ?_) rfl (by kernel_rfl) (by kernel_rfl) (by kernel_rfl) (fun _ _ _ h => h) (Or.inl ⟨by rfl, ?_⟩) hHeld ?_
  rotate_left
  · (intro wS hSw; (try dsimp only at hSw); go_simp; try with_reducible rfl)
  (try simp only [Act.put, List.getElem_toArray, List.getElem_cons_zero, List.getElem_cons_succ, List.setIfInBounds_toArray, List.set_cons_zero, List.set_cons_succ])
  refine wpAnyH_take (i := 5) (v := ?_) rfl (by kernel_rfl) (by kernel_rfl) (by kernel_rfl) (fun _ _ _ h => h) (Or.inl ⟨by rfl, ?_⟩) hHeld ?_
  rotate_left
  · (intro wS hSw; (try dsimp only at hSw); go_simp; try with_reducible rfl)
  (try simp only [Act.put, List.getElem_toArray, List.getElem_cons_zero, List.getElem_cons_succ, List.setIfInBounds_toArray, List.set_cons_zero, List.set_cons_succ])
  refine wpAnyH_take (i := 6) (v := ?_) rfl (by kernel_rfl) (by kernel_rfl) (by kernel_rfl) (fun _ _ _ h => h) (Or.inl ⟨by rfl, ?_⟩) hHeld ?_
  rotate_left
  · (intro wS hSw; (try dsimp only at hSw); go_simp; try with_reducible rfl)
  (try simp only [Act.put, List.getElem_toArray, List.getElem_cons_zero, List.getElem_cons_succ, List.setIfInBounds_toArray, List.set_cons_zero, List.set_cons_succ])
  refine wpAnyH_take (i := 7) (v := ?_) rfl (by kernel_rfl) (by kernel_rfl) (by kernel_rfl) (fun _ _ _ h => h) (Or.inl ⟨by rfl, ?_⟩) hHeld ?_
  rotate_left
  · (intro wS hSw; (try dsimp only at hSw); go_simp; try with_reducible rfl)
  (try simp only [Act.put, List.getElem_toArray, List.getElem_cons_zero, List.getElem_cons_succ, List.setIfInBounds_toArray, List.set_cons_zero, List.set_cons_succ])
  refine wpAnyH_take (i := 8) (v := ?_) rfl (by kernel_rfl) (by kernel_rfl) (by kernel_rfl) (fun _ _ _ h => h) (Or.inl ⟨by rfl, ?_⟩) hHeld ?_
  rotate_left
  · (intro wS hSw; (try dsimp only at hSw); go_simp; try with_reducible rfl)
  (try simp only [Act.put, List.getElem_toArray, List.getElem_cons_zero, List.getElem_cons_succ, List.setIfInBounds_toArray, List.set_cons_zero, List.set_cons_succ])
  refine wpAnyH_take (i := 9) (v := ?_) rfl (by kernel_rfl) (by kernel_rfl) (by kernel_rfl) (fun _ _ _ h => h) (Or.inl ⟨by rfl, ?_⟩) hHeld ?_
  rotate_left
  · (intro wS hSw; (try dsimp only at hSw); go_simp; try with_reducible rfl)
  (try simp only [Act.put, List.getElem_toArray, List.getElem_cons_zero, List.getElem_cons_succ, List.setIfInBounds_toArray, List.set_cons_zero, List.set_cons_succ])
  refine wpAnyH_ready (rs := [10]) (by kernel_rfl) (by simp) ?_
  refine AllReadyH.cons rfl (fun K hK => ?_) AllReadyH.nil
  (try simp only [List.getElem_toArray, List.getElem_cons_zero, List.getElem_cons_succ, List.setIfInBounds_toArray, List.set_cons_zero, List.set_cons_succ])
  try go_simp
  refine (HCQ.out _ (Below.drew HB0.out)).mono ?_; rintro e w2 ⟨v2, rfl, hb2, hT⟩; have HBN : Hid (Below W0.heap.size W0 w2) := Lib.hid (bl_tr (Below.drew (Below.refl _ _)) hb2); obtain ⟨A2, c2, C2, rfl, hc2, hA2, hC2⟩ := hT; have HT : Hid (PtsV (memX w2 (W0.heap.size ≤ ·)) l (.slice A2 l.length c2)) := Lib.hid ⟨A2, c2, C2, rfl, hc2, hA2, hC2⟩; clear hb2 hc2 hA2 hC2
  try go_simp
  refine hK.out _ _ ?_ (fun hHeld => ?_)
  · exact HBN.out.mono (by have := HSZ.out; omega)
  (try simp only [Act.put, List.getElem_toArray, List.getElem_cons_zero, List.getElem_cons_succ, List.setIfInBounds_toArray, List.set_cons_zero, List.set_cons_succ])
  refine wpAnyH_take (i := 11) (v := ?_) rfl (by kernel_rfl) (by kernel_rfl) (by kernel_rfl) (fun _ _ _ h => h) (Or.inl ⟨by rfl, ?_⟩) hHeld ?_
  rotate_left
  · (intro wS hSw; (try dsimp only at hSw); go_simp; try with_reducible rfl)
  (try simp only [Act.put, List.getElem_toArray, List.getElem_cons_zero, List.getElem_cons_succ, List.setIfInBounds_toArray, List.set_cons_zero, List.set_cons_succ])
  refine wpAnyH_ready (rs := [12]) (by kernel_rfl) (by simp) ?_
  refine AllReadyH.cons rfl (fun K hK => ?_) AllReadyH.nil
  refine step_store_row rfl 128 (.tmp 2) (.tmp 14) rfl (w.heap.size + 1) rfl #[.int .i64 k, .int .i64 a, .string s, .int .i64 n, .slice A2 l.length c2] rfl _ (bk_below HK2.out HBN.out) Try.irPP rfl (by simp [Value.oneCell']) ?_
  refine hK.out _ _ ?_ (fun hHeld => ?_)
  · exact below_setRow (HBN.out.mono (by have := HSZ.out; omega)) (Nat.le_refl _) _
  refine wpAnyH_done (by kernel_rfl) ?_ _
  have hw3 : Blk (w2.setRow (w.heap.size + 1) #[.int .i64 k, .int .i64 a, .string s, .int .i64 n, .slice A2 l.length c2]) (w.heap.size + 1) 128 #[.int .i64 k, .int .i64 a, .string s, .int .i64 n, .slice A2 l.length c2] := setRow_heap _ _ _ _ _ _ (bk_below HK2.out HBN.out)
  have hz0 := HSZ.out
  have hbw := below_setRow (bl_tr HB0.out HBN.out) (Nat.le_succ w.heap.size) #[.int .i64 k, .int .i64 a, .string s, .int .i64 n, .slice A2 l.length c2]
  have htys := PtsV.mono' (memX_le_X (w := w2) (w' := w2.setRow (w.heap.size + 1) #[.int .i64 k, .int .i64 a, .string s, .int .i64 n, .slice A2 l.length c2]) (Y := (w.heap.size ≤ ·)) (fun g hg hx => ⟨by omega, setRow_other w2 (w.heap.size + 1) g _ (by omega)⟩)) HT.out
  go_wp2_with fail
  refine bodyPost_ret (v := .agg #[.int .i64 k, .int .i64 a, .string s, .int .i64 n, .slice A2 l.length c2]) (results_cell_row (p := 2) (ty := 128) rfl _ _ (w.heap.size + 1) 128 #[.int .i64 k, .int .i64 a, .string s, .int .i64 n, .slice A2 l.length c2] (0, 0) _ rfl hw3 Try.underlying128 rfl Try.irPP) rfl ⟨[.int .i64 k, .int .i64 a, .string s, .int .i64 n, .slice A2 l.length c2], rfl, hbw, PtC.of htys HS.out⟩
end Go.Proofs.Ytfeghobfkgimfaa
