/- The document's types, copied. -/
import Derived.Test.YtfeghobfkgimfaaTreeU
import Derived.Laws.CopyOwn
namespace Go.Proofs.Ytfeghobfkgimfaa
set_option linter.unusedSimpArgs false
set_option linter.unusedVariables false
open Go.RowKit Go.Shelf

def OwnTyV (w : World) (D : Ty) (e : Ending) (w' : World) : Prop := ∃ cs, e = .returned (.agg cs.toArray) ∧ Below w.heap.size w w' ∧ TyC (memX w' (w.heap.size ≤ ·)) D cs
def OwnTysV (w : World) (l : List Ty) (e : Ending) (w' : World) : Prop := ∃ v, e = .returned v ∧ Below w.heap.size w w' ∧ TysV (memX w' (w.heap.size ≤ ·)) l v
theorem TysV.mono' {m m' : Mem} (hm : m.le m') {l : List Ty} {v : Value} (h : TysV m l v) : TysV m' l v := by
  obtain ⟨A, c, C, rfl, hc, hA, hC⟩ := h
  exact ⟨A, c, C, rfl, hc, hA.mono hm (fun i hi => (hC i hi).len), fun i hi => (hC i hi).mono hm⟩

theorem step_store_row {P : Program} {w : World} {ops : Array Oper} {o : Oper} {a : Act} {K : Act → World → Prop} {Q : Exit → Act → World → Prop} {E : Prop} (hgd : o.guard = none) (t : TypeId) (x y : Operand) (ho : o.op = .store t x y)
    (g : Nat) (hx : a.eval x = .pointer (some ⟨g, 0, none⟩)) (cells : Array Value) (hy : a.eval y = .agg cells) (old : Array Value) (hg : w.heap[g]? = some (.cells old t (0, 0))) (hi : (P.info? t).map (·.size) = some cells.size) (hold : old.size = cells.size) (h1 : ∀ v ∈ cells, v.oneCell' = true)
    (h : K (a.put o.dst undef) (w.setRow g cells)) : if Region.wanted o (yielded ops a.tmps) = true then Oper.wp P o a w K Q else E := by
  have hw : Region.wanted o (yielded ops a.tmps) = true := by simp [Region.wanted, hgd]
  rw [if_pos hw]
  unfold Oper.wp execOp
  simp only [ho, hx, hy, Instr.storeAt, Instr.sureAddr, Sem.run_bind, Sem.run_pure, Result.andThen_ok, run_storeVar_row (P := P) w g t t old cells hg hi hold (Array.all_eq_true_iff_forall_mem.2 h1)]
  exact h
theorem Try.irTT : (Try.prog.info? 167).map (·.size) = some 4 := by kernel_rfl
set_option maxRecDepth 100000 in
set_option maxHeartbeats 4000000 in
theorem ownTy_of (D : Ty) (cs : List Value) (w : World) (hD : TyC (mem w) D cs)
    (ih : ∀ k a s l, D = .mk k a s l → ∀ v W, TysV (mem W) l v → Calls Try.prog 91 #[v] W (OwnTysV W l)) :
    Calls Try.prog 90 #[.agg cs.toArray] w (OwnTyV w D) := by
  obtain ⟨k, a, s, l⟩ := D
  have hs := hD.size
  obtain ⟨v, rfl, hv⟩ := hD.inv
  have hcall := fun (W : World) (hb : Below w.heap.size w W) => ih k a s l rfl v W (hv.mono' (mem_below hb))
  have HCQ := Lib.hid hcall; have HS := Lib.hid hs
  clear hcall hs hv hD ih
  have hb0 := bl2 w (.cells #[.int .i64 k, .int .i64 a, .string s, v] 162) (.cells #[.int .i64 0, .int .i64 0, .string { data := #[] }, .slice none 0 0] 167)
  have hk1 : Blk ((w.alloc (.cells #[.int .i64 k, .int .i64 a, .string s, v] 162)).alloc (.cells #[.int .i64 0, .int .i64 0, .string { data := #[] }, .slice none 0 0] 167)) w.heap.size 162 #[.int .i64 k, .int .i64 a, .string s, v] := bk_alloc (bk_new _ _ _ _ rfl) _
  have hk2 : Blk ((w.alloc (.cells #[.int .i64 k, .int .i64 a, .string s, v] 162)).alloc (.cells #[.int .i64 0, .int .i64 0, .string { data := #[] }, .slice none 0 0] 167)) (w.heap.size + 1) 167 #[.int .i64 0, .int .i64 0, .string { data := #[] }, .slice none 0 0] := bk_new _ _ _ _ (by simp)
  go_enter Try.func90, Try.ntmps90
  go_wp2_with fail
  obtain ⟨W0, hW0⟩ : ∃ W0, ((w.alloc (.cells #[.int .i64 k, .int .i64 a, .string s, v] 162)).alloc (.cells #[.int .i64 0, .int .i64 0, .string { data := #[] }, .slice none 0 0] 167)) = W0 := ⟨_, rfl⟩
  rw [hW0] at hb0 hk1 hk2 ⊢
  have B0 : ∀ w', Below (w.heap.size + 1) W0 w' → w'.cell? ⟨w.heap.size, 0, none⟩ = some (.int .i64 k) := fun w' hw' => (cell_of_row _ _ 0 _ _ _ ((hw'.block w.heap.size (Nat.lt_succ_self _)).trans hk1)).trans rfl
  have B1 : ∀ w', Below (w.heap.size + 1) W0 w' → w'.cell? ⟨w.heap.size, 1, none⟩ = some (.int .i64 a) := fun w' hw' => (cell_of_row _ _ 1 _ _ _ ((hw'.block w.heap.size (Nat.lt_succ_self _)).trans hk1)).trans rfl
  have B2 : ∀ w', Below (w.heap.size + 1) W0 w' → w'.cell? ⟨w.heap.size, 2, none⟩ = some (.string s) := fun w' hw' => (cell_of_row _ _ 2 _ _ _ ((hw'.block w.heap.size (Nat.lt_succ_self _)).trans hk1)).trans rfl
  have B3 : ∀ w', Below (w.heap.size + 1) W0 w' → w'.cell? ⟨w.heap.size, 3, none⟩ = some v := fun w' hw' => (cell_of_row _ _ 3 _ _ _ ((hw'.block w.heap.size (Nat.lt_succ_self _)).trans hk1)).trans rfl
  have HB0 := Lib.hid hb0; have HK2 := Lib.hid hk2; have HSZ : Hid (W0.heap.size = w.heap.size + 2) := Lib.hid (by rw [← hW0]; simp)
  clear hb0 hk1 hk2 hW0
  try go_wp2_with fail
  refine wp_region_held_drew (S := fun w' => Below (w.heap.size + 1) W0 w') (by kernel_rfl) (Below.drew (Below.refl _ _)) (fun hHeld => ?_)
  refine wpAnyH_take (i := 0) (v := ?_) rfl (by kernel_rfl) (by kernel_rfl) (by kernel_rfl) (fun _ _ _ h => h) (Or.inl ⟨by rfl, ?_⟩) hHeld ?_
  rotate_left
  · (intro wS hSw; (try dsimp only at hSw); go_simp; try with_reducible rfl)
  (try simp only [Act.put, List.getElem_toArray, List.getElem_cons_zero, List.getElem_cons_succ, List.setIfInBounds_toArray, List.set_cons_zero, List.set_cons_succ])
  refine wpAnyH_take (i := 1) (v := ?_) rfl (by kernel_rfl) (by kernel_rfl) (by kernel_rfl) (fun _ _ _ h => h) (Or.inl ⟨by rfl, ?_⟩) hHeld ?_
  rotate_left
  · (intro wS hSw; (try dsimp only at hSw); go_simp; try with_reducible rfl)
  (try simp only [Act.put, List.getElem_toArray, List.getElem_cons_zero, List.getElem_cons_succ, List.setIfInBounds_toArray, List.set_cons_zero, List.set_cons_succ])
  refine wpAnyH_take (i := 2) (v := ?_) rfl (by kernel_rfl) (by kernel_rfl) (by kernel_rfl) (fun _ _ _ h => h) (Or.inl ⟨by rfl, ?_⟩) hHeld ?_
  rotate_left
  · (intro wS hSw; (try dsimp only at hSw); go_simp; try with_reducible rfl)
  (try simp only [Act.put, List.getElem_toArray, List.getElem_cons_zero, List.getElem_cons_succ, List.setIfInBounds_toArray, List.set_cons_zero, List.set_cons_succ])
  refine wpAnyH_take (i := 3) (v := ?_) rfl (by kernel_rfl) (by kernel_rfl) (by kernel_rfl) (fun _ _ _ h => h) (Or.inl ⟨by rfl, ?_⟩) hHeld ?_
  rotate_left
  · (intro wS hSw; (try dsimp only at hSw); go_simp; try with_reducible rfl)
  (try simp only [Act.put, List.getElem_toArray, List.getElem_cons_zero, List.getElem_cons_succ, List.setIfInBounds_toArray, List.set_cons_zero, List.set_cons_succ])
  refine wpAnyH_take (i := 4) (v := ?_) rfl (by kernel_rfl) (by kernel_rfl) (by kernel_rfl) (fun _ _ _ h => h) (Or.inl ⟨by rfl, ?_⟩) hHeld ?_
  rotate_left
  · (intro wS hSw; (try dsimp only at hSw); go_simp; try with_reducible rfl)
  (try simp only [Act.put, List.getElem_toArray, List.getElem_cons_zero, List.getElem_cons_succ, List.setIfInBounds_toArray, List.set_cons_zero, List.set_cons_succ])
  refine wpAnyH_take (i := 5) (v := ?_) rfl (by kernel_rfl) (by kernel_rfl) (by kernel_rfl) (fun _ _ _ h => h) (Or.inl ⟨by rfl, ?_⟩) hHeld ?_
  rotate_left
  · (intro wS hSw; (try dsimp only at hSw); go_simp; try with_reducible rfl)
  (try simp only [Act.put, List.getElem_toArray, List.getElem_cons_zero, List.getElem_cons_succ, List.setIfInBounds_toArray, List.set_cons_zero, List.set_cons_succ])
  refine wpAnyH_take (i := 6) (v := ?_) rfl (by kernel_rfl) (by kernel_rfl) (by kernel_rfl) (fun _ _ _ h => h) (Or.inl ⟨by rfl, ?_⟩) hHeld ?_
  rotate_left
  · (intro wS hSw; (try dsimp only at hSw); go_simp; try with_reducible rfl)
  (try simp only [Act.put, List.getElem_toArray, List.getElem_cons_zero, List.getElem_cons_succ, List.setIfInBounds_toArray, List.set_cons_zero, List.set_cons_succ])
  refine wpAnyH_take (i := 7) (v := ?_) rfl (by kernel_rfl) (by kernel_rfl) (by kernel_rfl) (fun _ _ _ h => h) (Or.inl ⟨by rfl, ?_⟩) hHeld ?_
  rotate_left
  · (intro wS hSw; (try dsimp only at hSw); go_simp; try with_reducible rfl)
  (try simp only [Act.put, List.getElem_toArray, List.getElem_cons_zero, List.getElem_cons_succ, List.setIfInBounds_toArray, List.set_cons_zero, List.set_cons_succ])
  refine wpAnyH_ready (rs := [8]) (by kernel_rfl) (by simp) ?_
  refine AllReadyH.cons rfl (fun K hK => ?_) AllReadyH.nil
  (try simp only [List.getElem_toArray, List.getElem_cons_zero, List.getElem_cons_succ, List.setIfInBounds_toArray, List.set_cons_zero, List.set_cons_succ])
  try go_simp
  refine (HCQ.out _ (Below.drew HB0.out)).mono ?_; rintro e w2 ⟨v2, rfl, hb2, hT⟩; have HBN : Hid (Below W0.heap.size W0 w2) := Lib.hid (bl_tr (Below.drew (Below.refl _ _)) hb2); obtain ⟨A2, c2, C2, rfl, hc2, hA2, hC2⟩ := hT; have HT : Hid (TysV (memX w2 (W0.heap.size ≤ ·)) l (.slice A2 l.length c2)) := Lib.hid ⟨A2, c2, C2, rfl, hc2, hA2, hC2⟩; clear hb2 hc2 hA2 hC2
  try go_simp
  refine hK.out _ _ ?_ (fun hHeld => ?_)
  · exact HBN.out.mono (by have := HSZ.out; omega)
  (try simp only [Act.put, List.getElem_toArray, List.getElem_cons_zero, List.getElem_cons_succ, List.setIfInBounds_toArray, List.set_cons_zero, List.set_cons_succ])
  refine wpAnyH_take (i := 9) (v := ?_) rfl (by kernel_rfl) (by kernel_rfl) (by kernel_rfl) (fun _ _ _ h => h) (Or.inl ⟨by rfl, ?_⟩) hHeld ?_
  rotate_left
  · (intro wS hSw; (try dsimp only at hSw); go_simp; try with_reducible rfl)
  (try simp only [Act.put, List.getElem_toArray, List.getElem_cons_zero, List.getElem_cons_succ, List.setIfInBounds_toArray, List.set_cons_zero, List.set_cons_succ])
  refine wpAnyH_ready (rs := [10]) (by kernel_rfl) (by simp) ?_
  refine AllReadyH.cons rfl (fun K hK => ?_) AllReadyH.nil
  refine step_store_row rfl 167 (.tmp 2) (.tmp 12) rfl (w.heap.size + 1) rfl #[.int .i64 k, .int .i64 a, .string s, .slice A2 l.length c2] rfl _ (bk_below HK2.out HBN.out) Try.irTT rfl (by simp [Value.oneCell']) ?_
  refine hK.out _ _ ?_ (fun hHeld => ?_)
  · exact below_setRow (HBN.out.mono (by have := HSZ.out; omega)) (Nat.le_refl _) _
  refine wpAnyH_done (by kernel_rfl) ?_ _
  have hw3 : Blk (w2.setRow (w.heap.size + 1) #[.int .i64 k, .int .i64 a, .string s, .slice A2 l.length c2]) (w.heap.size + 1) 167 #[.int .i64 k, .int .i64 a, .string s, .slice A2 l.length c2] := setRow_heap _ _ _ _ _ _ (bk_below HK2.out HBN.out)
  have hz0 := HSZ.out
  have hbw := below_setRow (bl_tr HB0.out HBN.out) (Nat.le_succ w.heap.size) #[.int .i64 k, .int .i64 a, .string s, .slice A2 l.length c2]
  have htys := TysV.mono' (memX_le_X (w := w2) (w' := w2.setRow (w.heap.size + 1) #[.int .i64 k, .int .i64 a, .string s, .slice A2 l.length c2]) (Y := (w.heap.size ≤ ·)) (fun g hg hx => ⟨by omega, setRow_other w2 (w.heap.size + 1) g _ (by omega)⟩)) HT.out
  go_wp2_with fail
  refine bodyPost_ret (v := .agg #[.int .i64 k, .int .i64 a, .string s, .slice A2 l.length c2]) (results_cell_row (p := 2) (ty := 167) rfl _ _ (w.heap.size + 1) 167 #[.int .i64 k, .int .i64 a, .string s, .slice A2 l.length c2] (0, 0) _ rfl hw3 Try.underlying167 rfl Try.irTT) rfl ⟨[.int .i64 k, .int .i64 a, .string s, .slice A2 l.length c2], rfl, hbw, TyC.of htys HS.out⟩
end Go.Proofs.Ytfeghobfkgimfaa
