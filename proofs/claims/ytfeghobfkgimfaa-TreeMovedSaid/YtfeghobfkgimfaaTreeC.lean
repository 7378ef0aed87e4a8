/- The document's expressions, copied. -/
import Derived.Test.YtfeghobfkgimfaaTreeB
import Derived.Laws.CopyOwn
import Derived.Deep.AppendLies
import Derived.Laws.Rows
namespace Go.Proofs.Ytfeghobfkgimfaa
set_option linter.unusedSimpArgs false
set_option linter.unusedVariables false
open Go.RowKit Go.Shelf

/-- What lay there lies there yet, but for one block. -/
structure But (B g3 : Nat) (w w' : World) : Prop where
  os : w'.os = w.os
  tape : w'.tape = w.tape
  output : w'.output = w.output
  size : w.heap.size ≤ w'.heap.size
  block : ∀ k, k < B → k ≠ g3 → w'.heap[k]? = w.heap[k]?
theorem But.refl (B g3 : Nat) (w : World) : But B g3 w w := ⟨rfl, rfl, rfl, Nat.le_refl _, fun _ _ _ => rfl⟩
theorem But.trans {B g3 : Nat} {a b c : World} (h : But B g3 a b) (k : But B g3 b c) : But B g3 a c :=
  ⟨k.os.trans h.os, k.tape.trans h.tape, k.output.trans h.output, Nat.le_trans h.size k.size, fun i hi hg => (k.block i hi hg).trans (h.block i hi hg)⟩
theorem But.of {B g3 : Nat} {a b : World} (h : Below B a b) : But B g3 a b := ⟨h.os, h.tape, h.output, h.size, fun i hi _ => h.block i hi⟩
theorem But.below {B g3 b : Nat} {w w' : World} (h : But B g3 w w') (hb : b ≤ g3) (hB : b ≤ B) : Below b w w' := ⟨h.os, h.tape, h.output, h.size, fun k hk => h.block k (by omega) (by omega)⟩
theorem But.cell {B g3 : Nat} {w w' : World} (h : But B g3 w w') (o : Nat) (u : Value) : But B g3 w (w'.setCell ⟨g3, o, none⟩ u) :=
  h.trans ⟨rfl, rfl, rfl, by simp [World.setCell], fun k _ hg => Below.heap_setCell _ _ _ _ hg⟩
theorem But.mono {B B' g3 : Nat} {w w' : World} (h : But B g3 w w') (hB : B' ≤ B) : But B' g3 w w' := ⟨h.os, h.tape, h.output, h.size, fun k hk hg => h.block k (Nat.lt_of_lt_of_le hk hB) hg⟩

/-- The copy half made: its patterns, its declarations. -/
structure ExAt (w : World) (cs : List Value) (z : Array Value) (kk aa : Int) (ss : ByteArray) (nn : Int) (pats : List Pt) (decls : List De) (g3 : Nat) (vp vd : Value) (W1 : World) : Prop where
  below : Below w.heap.size w W1
  box : Blk W1 w.heap.size 86 cs.toArray
  res : Blk W1 (w.heap.size + 1) 93 z
  loc : Blk W1 g3 93 #[.int .i64 kk, .int .i64 aa, .string ss, .int .i64 nn, .slice none 0 0, vp, .slice none 0 0, vd]
  far : w.heap.size + 2 ≤ g3
  pts : PtsV (memX W1 (fun g => w.heap.size + 2 ≤ g ∧ g ≠ g3)) pats vp
  des : DesV (memX W1 (fun g => w.heap.size + 2 ≤ g ∧ g ≠ g3)) decls vd

theorem Try.irEE : (Try.prog.info? 93).map (·.size) = some 8 := by kernel_rfl
theorem Try.infoEE : (Try.prog.info? 93).map (fun i => (i.zero, i.size, i.bytes)) = some (some (.agg #[.int .i64 0, .int .i64 0, .string { data := #[] }, .int .i64 0, .slice none 0 0, .slice none 0 0, .slice none 0 0, .slice none 0 0]), 8, 136) := by kernel_rfl
theorem Try.infoAA : (Try.prog.info? 135).map (fun i => (i.zero, i.size, i.bytes)) = some (some (.agg #[.int .i64 0, .int .i64 0, .string { data := #[] }, .int .i64 0, .slice none 0 0, .int .i64 0, .int .i64 0, .string { data := #[] }, .int .i64 0, .slice none 0 0, .slice none 0 0, .slice none 0 0, .slice none 0 0]), 13, 200) := by kernel_rfl
theorem len_cntExs (l : List Ex) : l.length ≤ cntExs l := by
  induction l with
  | nil => exact Nat.zero_le _
  | cons x l ih => cases x; rw [cntExs, cntEx, List.length_cons]; omega
theorem len_cntAls (l : List Al) : l.length ≤ cntAls l := by
  induction l with
  | nil => exact Nat.zero_le _
  | cons x l ih => cases x; rw [cntAls, List.length_cons]; omega
theorem len_cntDes (l : List De) : l.length ≤ cntDes l := by
  induction l with
  | nil => exact Nat.zero_le _
  | cons x l ih => cases x; rw [cntDes, List.length_cons]; omega
theorem cntExs_mem {l : List Ex} {D : Ex} (h : D ∈ l) : cntEx D ≤ cntExs l := by
  induction l with
  | nil => cases h
  | cons x l ih =>
    rw [cntExs]
    rcases List.mem_cons.1 h with rfl | h
    · omega
    · have := ih h
      omega
theorem cntAls_mem {l : List Al} {p : Pt} {b : Ex} (h : Al.mk p b ∈ l) : cntPts [p] + cntEx b ≤ cntAls l := by
  induction l with
  | nil => cases h
  | cons x l ih =>
    obtain ⟨p', b'⟩ := x
    rw [cntAls]
    rcases List.mem_cons.1 h with e | h
    · cases e; omega
    · have := ih h
      omega

theorem PtC.sh3 {m : Mem} {d : Pt} {cs : List Value} (h : PtC m d cs) : ∃ (y0 y1 : Int) (y2 : ByteArray) (y3 : Int) (YA : Option Addr) (ym yc : Nat), cs = [.int .i64 y0, .int .i64 y1, .string y2, .int .i64 y3, .slice YA ym yc] := by
  cases h; exact ⟨_, _, _, _, _, _, _, rfl⟩
theorem ExC.sh3 {m : Mem} {d : Ex} {cs : List Value} (h : ExC m d cs) : ∃ (x0 x1 : Int) (x2 : ByteArray) (x3 : Int) (XA : Option Addr) (xm xc : Nat) (XB : Option Addr) (xn xd : Nat) (XC : Option Addr) (xo xe : Nat) (XD : Option Addr) (xp xf : Nat), cs = [.int .i64 x0, .int .i64 x1, .string x2, .int .i64 x3, .slice XA xm xc, .slice XB xn xd, .slice XC xo xe, .slice XD xp xf] := by
  cases h with
  | mk k a s n l pats alts decls A c C vp A2 c2 C2 A3 c3 C3 hc hA h hp hc2 hA2 h2 hc3 hA3 h3 hs =>
    obtain ⟨AA, cc, CC, rfl, _⟩ := hp
    exact ⟨_, _, _, _, _, _, _, _, _, _, _, _, _, _, _, _, rfl⟩
theorem wpList_store_row {P : Program} {ops : Array Oper} {rest : List Oper} {o : Oper} {a : Act} {w : World} {Q : Exit → Act → World → Prop} (hgd : o.guard = none) (t : TypeId) (x y : Operand) (ho : o.op = .store t x y)
    (g : Nat) (hx : a.eval x = .pointer (some ⟨g, 0, none⟩)) (cells : Array Value) (hy : a.eval y = .agg cells) (old : Array Value) (hg : w.heap[g]? = some (.cells old t (0, 0))) (hi : (P.info? t).map (·.size) = some cells.size) (hold : old.size = cells.size) (h1 : ∀ v ∈ cells, v.oneCell' = true)
    (h : wpList P ops Q rest (a.put o.dst undef) (w.setRow g cells)) : wpList P ops Q (o :: rest) a w :=
  wpList_plain hgd fun _ hK => by
    unfold Oper.wp execOp
    simp only [ho, hx, hy, Instr.storeAt, Instr.sureAddr, Sem.run_bind, Sem.run_pure, Result.andThen_ok, run_storeVar_row (P := P) w g t t old cells hg hi hold (Array.all_eq_true_iff_forall_mem.2 h1)]
    exact hK _ _ h

set_option maxRecDepth 100000 in
set_option maxHeartbeats 8000000 in
theorem ownEx_of (D : Ex) (cs : List Value) (w : World) (hcnt : cntEx D ≤ 100000) (hD : ExC (mem w) D cs)
    (ihE : ∀ D', SizeOf.sizeOf (D' : Ex) < SizeOf.sizeOf D → cntEx D' ≤ 100000 → ∀ cs' W, ExC (mem W) D' cs' → Calls Try.prog 35 #[.agg cs'.toArray] W (OwnExV W D'))
    (ihD : ∀ l, SizeOf.sizeOf (l : List De) < SizeOf.sizeOf D → cntDes l ≤ 100000 → ∀ v W, DesV (mem W) l v → Calls Try.prog 69 #[v] W (OwnDesV W l)) :
    Calls Try.prog 35 #[.agg cs.toArray] w (OwnExV w D) := by
  obtain ⟨kk, aa, ss, nn, args, pats, alts, decls⟩ := D
  have hs := hD.size
  obtain ⟨v1, v2, v3, v4, rfl, h1, h2, h3, h4⟩ := hD.inv
  simp only [cntEx] at hcnt
  simp at ihE ihD
  have hP := fun (W : World) (hb : Below w.heap.size w W) => ownPts_any pats v2 W (by omega) (h2.mono (mem_below hb))
  have hDD := fun (W : World) (hb : Below w.heap.size w W) => ihD decls (by omega) (by omega) v4 W (h4.mono (mem_below hb))
  have hlenE := len_cntExs args
  have hlenA := len_cntAls alts
  have hn1 : args.length ≤ 100000 := by omega
  have hn2 : alts.length ≤ 100000 := by omega
  have HE := Lib.hid (fun (D' : Ex) (hm : D' ∈ args) => ihE D' (by have := List.sizeOf_lt_of_mem hm; omega) (by have := cntExs_mem hm; omega))
  have HPA := Lib.hid (fun (p : Pt) (b : Ex) (hm : Al.mk p b ∈ alts) (cs' : List Value) (W : World) (hp : PtC (mem W) p cs') => ownPt_any p cs' W (by have := cntAls_mem hm; omega) hp)
  have HEA := Lib.hid (fun (p : Pt) (b : Ex) (hm : Al.mk p b ∈ alts) => ihE b (by have := List.sizeOf_lt_of_mem hm; simp at this; omega) (by have := cntAls_mem hm; omega))
  have HP := Lib.hid hP; have HD := Lib.hid hDD; have HS := Lib.hid hs
  obtain ⟨A, c, C, rfl, hc, hA, hC⟩ := h1
  obtain ⟨A3, c3, C3, rfl, hc3, hA3, hC3⟩ := h3
  have HA := Lib.hid hA; have HCC := Lib.hid hC; have HA3 := Lib.hid hA3; have HCC3 := Lib.hid hC3
  have O1 : Hid (∀ i, i < args.length → (C i).length = 8) := Lib.hid (fun i hi => (hC i hi).len)
  have O3 : Hid (∀ i, i < alts.length → (C3 i).length = 13) := Lib.hid (fun i hi => (hC3 i hi).len)
  clear hP hDD hs h2 h4 hA hC hA3 hC3 hD ihE ihD hcnt hlenE hlenA hc hc3
  obtain ⟨n1, e1⟩ : ∃ x, x = args.length := ⟨_, rfl⟩
  obtain ⟨n2, e2⟩ : ∃ x, x = alts.length := ⟨_, rfl⟩
  rw [← e1] at HA O1 hn1; rw [← e2] at HA3 O3 hn2
  have HN := Lib.hid e1; have HN2 := Lib.hid e2
  rw [← HN.out, ← HN2.out]
  clear e1 e2
  obtain ⟨v1, hv1⟩ : ∃ v, v = Value.slice A n1 c := ⟨_, rfl⟩
  obtain ⟨v3, hv3⟩ : ∃ v, v = Value.slice A3 n2 c3 := ⟨_, rfl⟩
  rw [← hv1, ← hv3]
  have HV1 := Lib.hid hv1; have HV3 := Lib.hid hv3
  clear hv1 hv3
  have hb0 := bl2 w (.cells #[.int .i64 kk, .int .i64 aa, .string ss, .int .i64 nn, v1, v2, v3, v4] 86) (.cells #[.int .i64 0, .int .i64 0, .string { data := #[] }, .int .i64 0, .slice none 0 0, .slice none 0 0, .slice none 0 0, .slice none 0 0] 93)
  have hk1 : Blk ((w.alloc (.cells #[.int .i64 kk, .int .i64 aa, .string ss, .int .i64 nn, v1, v2, v3, v4] 86)).alloc (.cells #[.int .i64 0, .int .i64 0, .string { data := #[] }, .int .i64 0, .slice none 0 0, .slice none 0 0, .slice none 0 0, .slice none 0 0] 93)) w.heap.size 86 #[.int .i64 kk, .int .i64 aa, .string ss, .int .i64 nn, v1, v2, v3, v4] := bk_alloc (bk_new _ _ _ _ rfl) _
  have hk2 : Blk ((w.alloc (.cells #[.int .i64 kk, .int .i64 aa, .string ss, .int .i64 nn, v1, v2, v3, v4] 86)).alloc (.cells #[.int .i64 0, .int .i64 0, .string { data := #[] }, .int .i64 0, .slice none 0 0, .slice none 0 0, .slice none 0 0, .slice none 0 0] 93)) (w.heap.size + 1) 93 #[.int .i64 0, .int .i64 0, .string { data := #[] }, .int .i64 0, .slice none 0 0, .slice none 0 0, .slice none 0 0, .slice none 0 0] := bk_new _ _ _ _ (by simp)
  go_enter Try.func35, Try.ntmps35
  go_wp2_with fail
  obtain ⟨W0, hW0⟩ : ∃ W0, ((w.alloc (.cells #[.int .i64 kk, .int .i64 aa, .string ss, .int .i64 nn, v1, v2, v3, v4] 86)).alloc (.cells #[.int .i64 0, .int .i64 0, .string { data := #[] }, .int .i64 0, .slice none 0 0, .slice none 0 0, .slice none 0 0, .slice none 0 0] 93)) = W0 := ⟨_, rfl⟩
  rw [hW0] at hb0 hk1 hk2 ⊢
  have B0 : ∀ w', Below (w.heap.size + 1) W0 w' → w'.cell? ⟨w.heap.size, 0, none⟩ = some (.int .i64 kk) := fun w' hw' => (cell_of_row _ _ 0 _ _ _ ((hw'.block w.heap.size (Nat.lt_succ_self _)).trans hk1)).trans rfl
  have B1 : ∀ w', Below (w.heap.size + 1) W0 w' → w'.cell? ⟨w.heap.size, 1, none⟩ = some (.int .i64 aa) := fun w' hw' => (cell_of_row _ _ 1 _ _ _ ((hw'.block w.heap.size (Nat.lt_succ_self _)).trans hk1)).trans rfl
  have B2 : ∀ w', Below (w.heap.size + 1) W0 w' → w'.cell? ⟨w.heap.size, 2, none⟩ = some (.string ss) := fun w' hw' => (cell_of_row _ _ 2 _ _ _ ((hw'.block w.heap.size (Nat.lt_succ_self _)).trans hk1)).trans rfl
  have B3 : ∀ w', Below (w.heap.size + 1) W0 w' → w'.cell? ⟨w.heap.size, 3, none⟩ = some (.int .i64 nn) := fun w' hw' => (cell_of_row _ _ 3 _ _ _ ((hw'.block w.heap.size (Nat.lt_succ_self _)).trans hk1)).trans rfl
  have B5 : ∀ w', Below (w.heap.size + 1) W0 w' → w'.cell? ⟨w.heap.size, 5, none⟩ = some (v2) := fun w' hw' => (cell_of_row _ _ 5 _ _ _ ((hw'.block w.heap.size (Nat.lt_succ_self _)).trans hk1)).trans rfl
  have B7 : ∀ w', Below (w.heap.size + 1) W0 w' → w'.cell? ⟨w.heap.size, 7, none⟩ = some (v4) := fun w' hw' => (cell_of_row _ _ 7 _ _ _ ((hw'.block w.heap.size (Nat.lt_succ_self _)).trans hk1)).trans rfl
  have HB0 := Lib.hid hb0; have HK1 := Lib.hid hk1; have HK2 := Lib.hid hk2; have HSZ : Hid (W0.heap.size = w.heap.size + 2) := Lib.hid (by rw [← hW0]; simp)
  clear hb0 hk1 hk2 hW0
  go_cut [3] (fun s3 wc => ∃ (g3 : Nat) (Ap : Option Addr) (cp : Nat) (Ad : Option Addr) (cd : Nat), s3 = .pointer (some ⟨g3, 0, none⟩) ∧ Hid (ExAt w [.int .i64 kk, .int .i64 aa, .string ss, .int .i64 nn, v1, v2, v3, v4] #[.int .i64 0, .int .i64 0, .string { data := #[] }, .int .i64 0, .slice none 0 0, .slice none 0 0, .slice none 0 0, .slice none 0 0] kk aa ss nn pats decls g3 (.slice Ap pats.length cp) (.slice Ad decls.length cd) wc))
  case first =>
    refine wp_region_held_drew (S := fun w' => Below (w.heap.size + 1) W0 w') (by kernel_rfl) (Below.drew (Below.refl _ _)) (fun hHeld => ?_)
    refine wpAnyH_take (i := 0) (v := ?_) rfl (by kernel_rfl) (by kernel_rfl) (by kernel_rfl) (fun _ _ _ h => h) (Or.inl ⟨by rfl, ?_⟩) hHeld ?_
    rotate_left
    · (intro wS hSw; (try dsimp only at hSw); go_simp; try with_reducible rfl)
    (try simp only [Act.put, List.getElem_toArray, List.getElem_cons_zero, List.getElem_cons_succ, List.setIfInBounds_toArray, List.set_cons_zero, List.set_cons_succ])
    refine wpAnyH_take (i := 1) (v := ?_) rfl (by kernel_rfl) (by kernel_rfl) (by kernel_rfl) (fun _ _ _ h => h) (Or.inl ⟨by rfl, ?_⟩) hHeld ?_
    rotate_left
    · (intro wS hSw; (try dsimp only at hSw); go_simp; try with_reducible rfl)
    (try simp only [Act.put, List.getElem_toArray, List.getElem_cons_zero, List.getElem_cons_succ, List.setIfInBounds_toArray, List.set_cons_zero, List.set_cons_succ])
    refine wpAnyH_take (i := 2) (v := ?_) rfl (by kernel_rfl) (by kernel_rfl) (by kernel_rfl) (fun _ _ _ h => h) (Or.inl ⟨by rfl, ?_⟩) hHeld ?_
    rotate_left
    · (intro wS hSw; (try dsimp only at hSw); go_simp; try with_reducible rfl)
    (try simp only [Act.put, List.getElem_toArray, List.getElem_cons_zero, List.getElem_cons_succ, List.setIfInBounds_toArray, List.set_cons_zero, List.set_cons_succ])
    refine wpAnyH_take (i := 3) (v := ?_) rfl (by kernel_rfl) (by kernel_rfl) (by kernel_rfl) (fun _ _ _ h => h) (Or.inl ⟨by rfl, ?_⟩) hHeld ?_
    rotate_left
    · (intro wS hSw; (try dsimp only at hSw); go_simp; try with_reducible rfl)
    (try simp only [Act.put, List.getElem_toArray, List.getElem_cons_zero, List.getElem_cons_succ, List.setIfInBounds_toArray, List.set_cons_zero, List.set_cons_succ])
    refine wpAnyH_take (i := 4) (v := ?_) rfl (by kernel_rfl) (by kernel_rfl) (by kernel_rfl) (fun _ _ _ h => h) (Or.inl ⟨by rfl, ?_⟩) hHeld ?_
    rotate_left
    · (intro wS hSw; (try dsimp only at hSw); go_simp; try with_reducible rfl)
    (try simp only [Act.put, List.getElem_toArray, List.getElem_cons_zero, List.getElem_cons_succ, List.setIfInBounds_toArray, List.set_cons_zero, List.set_cons_succ])
    refine wpAnyH_take (i := 5) (v := ?_) rfl (by kernel_rfl) (by kernel_rfl) (by kernel_rfl) (fun _ _ _ h => h) (Or.inl ⟨by rfl, ?_⟩) hHeld ?_
    rotate_left
    · (intro wS hSw; (try dsimp only at hSw); go_simp; try with_reducible rfl)
    (try simp only [Act.put, List.getElem_toArray, List.getElem_cons_zero, List.getElem_cons_succ, List.setIfInBounds_toArray, List.set_cons_zero, List.set_cons_succ])
    refine wpAnyH_take (i := 6) (v := ?_) rfl (by kernel_rfl) (by kernel_rfl) (by kernel_rfl) (fun _ _ _ h => h) (Or.inl ⟨by rfl, ?_⟩) hHeld ?_
    rotate_left
    · (intro wS hSw; (try dsimp only at hSw); go_simp; try with_reducible rfl)
    (try simp only [Act.put, List.getElem_toArray, List.getElem_cons_zero, List.getElem_cons_succ, List.setIfInBounds_toArray, List.set_cons_zero, List.set_cons_succ])
    refine wpAnyH_take (i := 7) (v := ?_) rfl (by kernel_rfl) (by kernel_rfl) (by kernel_rfl) (fun _ _ _ h => h) (Or.inl ⟨by rfl, ?_⟩) hHeld ?_
    rotate_left
    · (intro wS hSw; (try dsimp only at hSw); go_simp; try with_reducible rfl)
    (try simp only [Act.put, List.getElem_toArray, List.getElem_cons_zero, List.getElem_cons_succ, List.setIfInBounds_toArray, List.set_cons_zero, List.set_cons_succ])
    refine wpAnyH_take (i := 8) (v := ?_) rfl (by kernel_rfl) (by kernel_rfl) (by kernel_rfl) (fun _ _ _ h => h) (Or.inl ⟨by rfl, ?_⟩) hHeld ?_
    rotate_left
    · (intro wS hSw; (try dsimp only at hSw); go_simp; try with_reducible rfl)
    (try simp only [Act.put, List.getElem_toArray, List.getElem_cons_zero, List.getElem_cons_succ, List.setIfInBounds_toArray, List.set_cons_zero, List.set_cons_succ])
    refine wpAnyH_take (i := 9) (v := ?_) rfl (by kernel_rfl) (by kernel_rfl) (by kernel_rfl) (fun _ _ _ h => h) (Or.inl ⟨by rfl, ?_⟩) hHeld ?_
    rotate_left
    · (intro wS hSw; (try dsimp only at hSw); go_simp; try with_reducible rfl)
    (try simp only [Act.put, List.getElem_toArray, List.getElem_cons_zero, List.getElem_cons_succ, List.setIfInBounds_toArray, List.set_cons_zero, List.set_cons_succ])
    refine wpAnyH_take (i := 11) (v := ?_) rfl (by kernel_rfl) (by kernel_rfl) (by kernel_rfl) (fun _ _ _ h => h) (Or.inl ⟨by rfl, ?_⟩) hHeld ?_
    rotate_left
    · (intro wS hSw; (try dsimp only at hSw); go_simp; try with_reducible rfl)
    (try simp only [Act.put, List.getElem_toArray, List.getElem_cons_zero, List.getElem_cons_succ, List.setIfInBounds_toArray, List.set_cons_zero, List.set_cons_succ])
    refine wpAnyH_take (i := 12) (v := ?_) rfl (by kernel_rfl) (by kernel_rfl) (by kernel_rfl) (fun _ _ _ h => h) (Or.inl ⟨by rfl, ?_⟩) hHeld ?_
    rotate_left
    · (intro wS hSw; (try dsimp only at hSw); go_simp; try with_reducible rfl)
    (try simp only [Act.put, List.getElem_toArray, List.getElem_cons_zero, List.getElem_cons_succ, List.setIfInBounds_toArray, List.set_cons_zero, List.set_cons_succ])
    refine wpAnyH_ready (rs := [10, 15]) (by kernel_rfl) (by simp) ?_
    refine AllReadyH.cons rfl (fun K hK => ?_) (AllReadyH.cons rfl (fun K hK => ?_) AllReadyH.nil)
    · (try simp only [List.getElem_toArray, List.getElem_cons_zero, List.getElem_cons_succ, List.setIfInBounds_toArray, List.set_cons_zero, List.set_cons_succ])
      try go_simp
      refine (HP.out _ (Below.drew HB0.out)).mono ?_
      rintro e w2 ⟨vq, rfl, hb2, hT⟩
      obtain ⟨Ap, cp, Cp, rfl, hcp, hAp, hCp⟩ := hT
      have HT2 : Hid (PtsV (memX w2 ((W0.drew).heap.size ≤ ·)) pats (.slice Ap pats.length cp)) := Lib.hid ⟨Ap, cp, Cp, rfl, hcp, hAp, hCp⟩
      have HB2 : Hid (Below (W0.drew).heap.size (W0.drew) w2) := Lib.hid hb2
      clear hb2 hcp hAp hCp
      try go_simp
      refine hK.out _ _ ?_ (fun hHeld => ?_)
      · exact (bl_tr (Below.drew (Below.refl _ _)) HB2.out).mono (by have := HSZ.out; omega)
      (try simp only [Act.put, List.getElem_toArray, List.getElem_cons_zero, List.getElem_cons_succ, List.setIfInBounds_toArray, List.set_cons_zero, List.set_cons_succ])
      refine wpAnyH_ready (rs := [13, 15]) (by kernel_rfl) (by simp) ?_
      refine AllReadyH.cons rfl (fun K hK => ?_) (AllReadyH.cons rfl (fun K hK => ?_) AllReadyH.nil)
      · (try simp only [List.getElem_toArray, List.getElem_cons_zero, List.getElem_cons_succ, List.setIfInBounds_toArray, List.set_cons_zero, List.set_cons_succ])
        try go_simp
        refine (HD.out _ (bl_tr (Below.drew HB0.out) HB2.out)).mono ?_
        rintro e w3 ⟨vq, rfl, hb3, hT⟩
        obtain ⟨Ad, cd, Cd, rfl, hcd, hAd, hCd⟩ := hT
        have HT3 : Hid (DesV (memX w3 ((w2).heap.size ≤ ·)) decls (.slice Ad decls.length cd)) := Lib.hid ⟨Ad, cd, Cd, rfl, hcd, hAd, hCd⟩
        have HB3 : Hid (Below (w2).heap.size (w2) w3) := Lib.hid hb3
        clear hb3 hcd hAd hCd
        try go_simp
        refine hK.out _ _ ?_ (fun hHeld => ?_)
        · exact (bl_tr (bl_tr (Below.drew (Below.refl _ _)) HB2.out) HB3.out).mono (by have := HSZ.out; omega)
        (try simp only [Act.put, List.getElem_toArray, List.getElem_cons_zero, List.getElem_cons_succ, List.setIfInBounds_toArray, List.set_cons_zero, List.set_cons_succ])
        refine wpAnyH_take (i := 14) (v := ?_) rfl (by kernel_rfl) (by kernel_rfl) (by kernel_rfl) (fun _ _ _ h => h) (Or.inl ⟨by rfl, ?_⟩) hHeld ?_
        rotate_left
        · (intro wS hSw; (try dsimp only at hSw); go_simp; try with_reducible rfl)
        (try simp only [Act.put, List.getElem_toArray, List.getElem_cons_zero, List.getElem_cons_succ, List.setIfInBounds_toArray, List.set_cons_zero, List.set_cons_succ])
        refine wpAnyH_ready (rs := [15]) (by kernel_rfl) (by simp) ?_
        refine AllReadyH.cons rfl (fun K hK => ?_) AllReadyH.nil
        · (try simp only [List.getElem_toArray, List.getElem_cons_zero, List.getElem_cons_succ, List.setIfInBounds_toArray, List.set_cons_zero, List.set_cons_succ])
          try go_simp
          refine hK.out _ _ ?_ (fun hHeld => ?_)
          · exact (bl_al (bl_tr (bl_tr (Below.drew (Below.refl _ _)) HB2.out) HB3.out) _).mono (by have := HSZ.out; omega)
          (try simp only [Act.put, List.getElem_toArray, List.getElem_cons_zero, List.getElem_cons_succ, List.setIfInBounds_toArray, List.set_cons_zero, List.set_cons_succ])
          refine wpAnyH_ready (rs := [16]) (by kernel_rfl) (by simp) ?_
          refine AllReadyH.cons rfl (fun K hK => ?_) AllReadyH.nil
          · skip
            refine step_store_row rfl 93 (.tmp 3) (.tmp 20) rfl (w3.heap.size) rfl #[.int .i64 kk, .int .i64 aa, .string ss, .int .i64 nn, .slice none 0 0, .slice Ap pats.length cp, .slice none 0 0, .slice Ad decls.length cd] rfl _ (bk_new w3 _ _ _ rfl) Try.irEE rfl (by simp [Value.oneCell']) ?_
            refine hK.out _ _ ?_ (fun hHeld => ?_)
            · exact below_setRow ((bl_al (bl_tr (bl_tr (Below.drew (Below.refl _ _)) HB2.out) HB3.out) _).mono (by have := HSZ.out; omega)) (by have := HSZ.out; have h2 : W0.heap.size ≤ w2.heap.size := HB2.out.size; have := HB3.out.size; omega) _
            (try simp only [Act.put, List.getElem_toArray, List.getElem_cons_zero, List.getElem_cons_succ, List.setIfInBounds_toArray, List.set_cons_zero, List.set_cons_succ])
            refine wpAnyH_done (by kernel_rfl) ?_ _
            have hbel := (bl_al (bl_tr (bl_tr (Below.drew HB0.out) HB2.out) HB3.out) (.cells #[.int .i64 0, .int .i64 0, .string { data := #[] }, .int .i64 0, .slice none 0 0, .slice none 0 0, .slice none 0 0, .slice none 0 0] 93))
            have hg3 : w.heap.size + 2 ≤ w3.heap.size := by have := HSZ.out; have := HB2.out.size; have := HB3.out.size; simp at *; omega
            go_wp2_with fail
            go_meet
            case rel =>
              exact ⟨w3.heap.size, Ap, cp, Ad, cd, rfl, Lib.hid ⟨below_setRow hbel (by omega) _, (setRow_other _ _ _ _ (by omega)).trans (bk_alloc (bk_below (bk_below (bk_drew HK1.out) HB2.out) HB3.out) _), (setRow_other _ _ _ _ (by omega)).trans (bk_alloc (bk_below (bk_below (bk_drew HK2.out) HB2.out) HB3.out) _), setRow_heap _ _ _ _ _ _ (bk_new w3 _ _ _ rfl), hg3, HT2.out.mono' (memX_le_X (fun g hg hx => ⟨⟨by have := HSZ.out; simp at hx; omega, by have := HB3.out.size; omega⟩, (setRow_other _ _ _ _ (by have := HB3.out.size; omega)).trans ((Below.heap_alloc w3 _ g (by have := HB3.out.size; omega)).trans (HB3.out.block g hg))⟩)), HT3.out.mono (memX_le_X (fun g hg hx => ⟨⟨by have := HSZ.out; have := HB2.out.size; simp at this; omega, by omega⟩, (setRow_other _ _ _ _ (by omega)).trans (Below.heap_alloc w3 _ g hg)⟩))⟩⟩
      · (try simp only [List.getElem_toArray, List.getElem_cons_zero, List.getElem_cons_succ, List.setIfInBounds_toArray, List.set_cons_zero, List.set_cons_succ])
        try go_simp
        refine hK.out _ _ ?_ (fun hHeld => ?_)
        · exact (bl_al (bl_tr (Below.drew (Below.refl _ _)) HB2.out) _).mono (by have := HSZ.out; omega)
        (try simp only [Act.put, List.getElem_toArray, List.getElem_cons_zero, List.getElem_cons_succ, List.setIfInBounds_toArray, List.set_cons_zero, List.set_cons_succ])
        refine wpAnyH_ready (rs := [13]) (by kernel_rfl) (by simp) ?_
        refine AllReadyH.cons rfl (fun K hK => ?_) AllReadyH.nil
        · (try simp only [List.getElem_toArray, List.getElem_cons_zero, List.getElem_cons_succ, List.setIfInBounds_toArray, List.set_cons_zero, List.set_cons_succ])
          try go_simp
          refine (HD.out _ (bl_al (bl_tr (Below.drew HB0.out) HB2.out) _)).mono ?_
          rintro e w3 ⟨vq, rfl, hb3, hT⟩
          obtain ⟨Ad, cd, Cd, rfl, hcd, hAd, hCd⟩ := hT
          have HT3 : Hid (DesV (memX w3 ((w2.alloc (.cells #[.int .i64 0, .int .i64 0, .string { data := #[] }, .int .i64 0, .slice none 0 0, .slice none 0 0, .slice none 0 0, .slice none 0 0] 93)).heap.size ≤ ·)) decls (.slice Ad decls.length cd)) := Lib.hid ⟨Ad, cd, Cd, rfl, hcd, hAd, hCd⟩
          have HB3 : Hid (Below (w2.alloc (.cells #[.int .i64 0, .int .i64 0, .string { data := #[] }, .int .i64 0, .slice none 0 0, .slice none 0 0, .slice none 0 0, .slice none 0 0] 93)).heap.size (w2.alloc (.cells #[.int .i64 0, .int .i64 0, .string { data := #[] }, .int .i64 0, .slice none 0 0, .slice none 0 0, .slice none 0 0, .slice none 0 0] 93)) w3) := Lib.hid hb3
          clear hb3 hcd hAd hCd
          try go_simp
          refine hK.out _ _ ?_ (fun hHeld => ?_)
          · exact (bl_tr (bl_al (bl_tr (Below.drew (Below.refl _ _)) HB2.out) _) HB3.out).mono (by have := HSZ.out; omega)
          (try simp only [Act.put, List.getElem_toArray, List.getElem_cons_zero, List.getElem_cons_succ, List.setIfInBounds_toArray, List.set_cons_zero, List.set_cons_succ])
          refine wpAnyH_take (i := 14) (v := ?_) rfl (by kernel_rfl) (by kernel_rfl) (by kernel_rfl) (fun _ _ _ h => h) (Or.inl ⟨by rfl, ?_⟩) hHeld ?_
          rotate_left
          · (intro wS hSw; (try dsimp only at hSw); go_simp; try with_reducible rfl)
          (try simp only [Act.put, List.getElem_toArray, List.getElem_cons_zero, List.getElem_cons_succ, List.setIfInBounds_toArray, List.set_cons_zero, List.set_cons_succ])
          refine wpAnyH_ready (rs := [16]) (by kernel_rfl) (by simp) ?_
          refine AllReadyH.cons rfl (fun K hK => ?_) AllReadyH.nil
          · skip
            refine step_store_row rfl 93 (.tmp 3) (.tmp 20) rfl (w2.heap.size) rfl #[.int .i64 kk, .int .i64 aa, .string ss, .int .i64 nn, .slice none 0 0, .slice Ap pats.length cp, .slice none 0 0, .slice Ad decls.length cd] rfl _ (bk_below (bk_new w2 _ _ _ rfl) HB3.out) Try.irEE rfl (by simp [Value.oneCell']) ?_
            refine hK.out _ _ ?_ (fun hHeld => ?_)
            · exact below_setRow ((bl_tr (bl_al (bl_tr (Below.drew (Below.refl _ _)) HB2.out) _) HB3.out).mono (by have := HSZ.out; omega)) (by have := HSZ.out; have h2 : W0.heap.size ≤ w2.heap.size := HB2.out.size; omega) _
            (try simp only [Act.put, List.getElem_toArray, List.getElem_cons_zero, List.getElem_cons_succ, List.setIfInBounds_toArray, List.set_cons_zero, List.set_cons_succ])
            refine wpAnyH_done (by kernel_rfl) ?_ _
            have hbel := (bl_tr (bl_al (bl_tr (Below.drew HB0.out) HB2.out) _) HB3.out)
            have hg3 : w.heap.size + 2 ≤ w2.heap.size := by have := HSZ.out; have := HB2.out.size; have := HB3.out.size; simp at *; omega
            go_wp2_with fail
            go_meet
            case rel =>
              exact ⟨w2.heap.size, Ap, cp, Ad, cd, rfl, Lib.hid ⟨below_setRow hbel (by omega) _, (setRow_other _ _ _ _ (by omega)).trans (bk_below (bk_alloc (bk_below (bk_drew HK1.out) HB2.out) _) HB3.out), (setRow_other _ _ _ _ (by omega)).trans (bk_below (bk_alloc (bk_below (bk_drew HK2.out) HB2.out) _) HB3.out), setRow_heap _ _ _ _ _ _ (bk_below (bk_new w2 _ _ _ rfl) HB3.out), hg3, HT2.out.mono' (memX_le_X (fun g hg hx => ⟨⟨by have := HSZ.out; simp at hx; omega, by omega⟩, (setRow_other _ _ _ _ (by omega)).trans ((HB3.out.block g (by simp; omega)).trans (Below.heap_alloc w2 _ g hg))⟩)), HT3.out.mono (memX_le_X (fun g hg hx => ⟨⟨by have := HSZ.out; have := HB2.out.size; simp at hx this; omega, by simp at hx; omega⟩, setRow_other _ _ _ _ (by simp at hx; omega)⟩))⟩⟩
    · (try simp only [List.getElem_toArray, List.getElem_cons_zero, List.getElem_cons_succ, List.setIfInBounds_toArray, List.set_cons_zero, List.set_cons_succ])
      try go_simp
      refine hK.out _ _ ?_ (fun hHeld => ?_)
      · exact (bl_al (Below.drew (Below.refl _ _)) _).mono (by have := HSZ.out; omega)
      (try simp only [Act.put, List.getElem_toArray, List.getElem_cons_zero, List.getElem_cons_succ, List.setIfInBounds_toArray, List.set_cons_zero, List.set_cons_succ])
      refine wpAnyH_ready (rs := [10]) (by kernel_rfl) (by simp) ?_
      refine AllReadyH.cons rfl (fun K hK => ?_) AllReadyH.nil
      · (try simp only [List.getElem_toArray, List.getElem_cons_zero, List.getElem_cons_succ, List.setIfInBounds_toArray, List.set_cons_zero, List.set_cons_succ])
        try go_simp
        refine (HP.out _ (bl_al (Below.drew HB0.out) _)).mono ?_
        rintro e w2 ⟨vq, rfl, hb2, hT⟩
        obtain ⟨Ap, cp, Cp, rfl, hcp, hAp, hCp⟩ := hT
        have HT2 : Hid (PtsV (memX w2 ((W0.drew.alloc (.cells #[.int .i64 0, .int .i64 0, .string { data := #[] }, .int .i64 0, .slice none 0 0, .slice none 0 0, .slice none 0 0, .slice none 0 0] 93)).heap.size ≤ ·)) pats (.slice Ap pats.length cp)) := Lib.hid ⟨Ap, cp, Cp, rfl, hcp, hAp, hCp⟩
        have HB2 : Hid (Below (W0.drew.alloc (.cells #[.int .i64 0, .int .i64 0, .string { data := #[] }, .int .i64 0, .slice none 0 0, .slice none 0 0, .slice none 0 0, .slice none 0 0] 93)).heap.size (W0.drew.alloc (.cells #[.int .i64 0, .int .i64 0, .string { data := #[] }, .int .i64 0, .slice none 0 0, .slice none 0 0, .slice none 0 0, .slice none 0 0] 93)) w2) := Lib.hid hb2
        clear hb2 hcp hAp hCp
        try go_simp
        refine hK.out _ _ ?_ (fun hHeld => ?_)
        · exact (bl_tr (bl_al (Below.drew (Below.refl _ _)) _) HB2.out).mono (by have := HSZ.out; omega)
        (try simp only [Act.put, List.getElem_toArray, List.getElem_cons_zero, List.getElem_cons_succ, List.setIfInBounds_toArray, List.set_cons_zero, List.set_cons_succ])
        refine wpAnyH_ready (rs := [13]) (by kernel_rfl) (by simp) ?_
        refine AllReadyH.cons rfl (fun K hK => ?_) AllReadyH.nil
        · (try simp only [List.getElem_toArray, List.getElem_cons_zero, List.getElem_cons_succ, List.setIfInBounds_toArray, List.set_cons_zero, List.set_cons_succ])
          try go_simp
          refine (HD.out _ (bl_tr (bl_al (Below.drew HB0.out) _) HB2.out)).mono ?_
          rintro e w3 ⟨vq, rfl, hb3, hT⟩
          obtain ⟨Ad, cd, Cd, rfl, hcd, hAd, hCd⟩ := hT
          have HT3 : Hid (DesV (memX w3 ((w2).heap.size ≤ ·)) decls (.slice Ad decls.length cd)) := Lib.hid ⟨Ad, cd, Cd, rfl, hcd, hAd, hCd⟩
          have HB3 : Hid (Below (w2).heap.size (w2) w3) := Lib.hid hb3
          clear hb3 hcd hAd hCd
          try go_simp
          refine hK.out _ _ ?_ (fun hHeld => ?_)
          · exact (bl_tr (bl_tr (bl_al (Below.drew (Below.refl _ _)) _) HB2.out) HB3.out).mono (by have := HSZ.out; omega)
          (try simp only [Act.put, List.getElem_toArray, List.getElem_cons_zero, List.getElem_cons_succ, List.setIfInBounds_toArray, List.set_cons_zero, List.set_cons_succ])
          refine wpAnyH_take (i := 14) (v := ?_) rfl (by kernel_rfl) (by kernel_rfl) (by kernel_rfl) (fun _ _ _ h => h) (Or.inl ⟨by rfl, ?_⟩) hHeld ?_
          rotate_left
          · (intro wS hSw; (try dsimp only at hSw); go_simp; try with_reducible rfl)
          (try simp only [Act.put, List.getElem_toArray, List.getElem_cons_zero, List.getElem_cons_succ, List.setIfInBounds_toArray, List.set_cons_zero, List.set_cons_succ])
          refine wpAnyH_ready (rs := [16]) (by kernel_rfl) (by simp) ?_
          refine AllReadyH.cons rfl (fun K hK => ?_) AllReadyH.nil
          · skip
            refine step_store_row rfl 93 (.tmp 3) (.tmp 20) rfl (W0.heap.size) rfl #[.int .i64 kk, .int .i64 aa, .string ss, .int .i64 nn, .slice none 0 0, .slice Ap pats.length cp, .slice none 0 0, .slice Ad decls.length cd] rfl _ (bk_below (bk_below (bk_new W0.drew _ _ _ rfl) HB2.out) HB3.out) Try.irEE rfl (by simp [Value.oneCell']) ?_
            refine hK.out _ _ ?_ (fun hHeld => ?_)
            · exact below_setRow ((bl_tr (bl_tr (bl_al (Below.drew (Below.refl _ _)) _) HB2.out) HB3.out).mono (by have := HSZ.out; omega)) (by have := HSZ.out; omega) _
            (try simp only [Act.put, List.getElem_toArray, List.getElem_cons_zero, List.getElem_cons_succ, List.setIfInBounds_toArray, List.set_cons_zero, List.set_cons_succ])
            refine wpAnyH_done (by kernel_rfl) ?_ _
            have hbel := (bl_tr (bl_tr (bl_al (Below.drew HB0.out) _) HB2.out) HB3.out)
            have hg3 : w.heap.size + 2 ≤ W0.heap.size := by have := HSZ.out; have := HB2.out.size; have := HB3.out.size; simp at *; omega
            go_wp2_with fail
            go_meet
            case rel =>
              exact ⟨W0.heap.size, Ap, cp, Ad, cd, rfl, Lib.hid ⟨below_setRow hbel (by omega) _, (setRow_other _ _ _ _ (by omega)).trans (bk_below (bk_below (bk_alloc (bk_drew HK1.out) _) HB2.out) HB3.out), (setRow_other _ _ _ _ (by omega)).trans (bk_below (bk_below (bk_alloc (bk_drew HK2.out) _) HB2.out) HB3.out), setRow_heap _ _ _ _ _ _ (bk_below (bk_below (bk_new W0.drew _ _ _ rfl) HB2.out) HB3.out), hg3, HT2.out.mono' (memX_le_X (fun g hg hx => ⟨⟨by have := HSZ.out; simp at hx; omega, by simp at hx; omega⟩, (setRow_other _ _ _ _ (by simp at hx; omega)).trans (HB3.out.block g hg)⟩)), HT3.out.mono (memX_le_X (fun g hg hx => ⟨⟨by have := HSZ.out; have := HB2.out.size; simp at this; omega, by have := HB2.out.size; simp at this; omega⟩, setRow_other _ _ _ _ (by have := HB2.out.size; simp at this; omega)⟩))⟩⟩
  case rest =>
    obtain ⟨g3, Ap, cp, Ad, cd, rfl, HX⟩ := hcut
    have HFAR : Hid (w.heap.size + 2 ≤ g3) := Lib.hid HX.out.far
    have HG3 : Hid (g3 < wc.heap.size) := Lib.hid (Array.getElem?_eq_some_iff.1 HX.out.loc).1
    have HBW0 : Hid (Below w.heap.size w wc) := Lib.hid HX.out.below
    have HBX0 : Hid (Blk wc w.heap.size 86 #[.int .i64 kk, .int .i64 aa, .string ss, .int .i64 nn, v1, v2, v3, v4]) := Lib.hid HX.out.box
    have HRS0 : Hid (Blk wc (w.heap.size + 1) 93 #[.int .i64 0, .int .i64 0, .string { data := #[] }, .int .i64 0, .slice none 0 0, .slice none 0 0, .slice none 0 0, .slice none 0 0]) := Lib.hid HX.out.res
    go_wp2_with fail
    go_loopg [4] n1 (fun gk i wr => ∃ q : Nat, q ≤ n1 ∧ gk = n1 - q ∧ i = .int .i64 q ∧ Hid (But wc.heap.size g3 wc wr ∧ ∃ A1 c1 C2, Blk wr g3 93 #[.int .i64 kk, .int .i64 aa, .string ss, .int .i64 nn, .slice A1 q c1, .slice Ap pats.length cp, .slice none 0 0, .slice Ad decls.length cd] ∧ RowX wr (wc.heap.size ≤ ·) wc.heap.size 93 8 (.slice A1 q c1) q C2 (GEx args)))
    case atStart => exact ⟨0, Nat.zero_le _, rfl, rfl, Lib.hid ⟨But.refl _ _ _, none, 0, fun _ => [], HX.out.loc, RowX.nil _ _ _ _ _ _ _⟩⟩
    case round =>
      obtain ⟨q, hq, rfl, rfl, HL⟩ := hrel
      obtain ⟨hbut, AX, cX, CX, hkb, hrw⟩ := HL.out
      clear HL
      have hbC : Below (w.heap.size + 2) wc wr := hbut.below HFAR.out (by have := HFAR.out; have := HG3.out; omega)
      have HBR : Hid (Below w.heap.size w wr) := Lib.hid (HBW0.out.trans (hbC.mono (by omega)))
      have HBX : Hid (Blk wr w.heap.size 86 #[.int .i64 kk, .int .i64 aa, .string ss, .int .i64 nn, v1, v2, v3, v4]) := Lib.hid ((hbC.block _ (by omega)).trans HBX0.out)
      have hce : wr.cell? ⟨w.heap.size, 4, none⟩ = some (.slice A n1 c) := ((cell_of_row _ _ 4 _ _ _ HBX.out).trans rfl : wr.cell? ⟨w.heap.size, 4, none⟩ = some v1).trans (congrArg some HV1.out)
      have HBU := Lib.hid hbut; have HKB := Lib.hid hkb; have HRW := Lib.hid hrw
      have HRS : Hid (Blk wr (w.heap.size + 1) 93 #[.int .i64 0, .int .i64 0, .string { data := #[] }, .int .i64 0, .slice none 0 0, .slice none 0 0, .slice none 0 0, .slice none 0 0]) := Lib.hid ((hbC.block _ (by omega)).trans HRS0.out)
      clear hbut hkb hrw hbC
      by_cases hlt : q < n1
      · obtain ⟨gi0, hgi, hgz0, hgzs, hgzb⟩ := info_parts Try.infoEE
        obtain ⟨g, o, rfl, hc1⟩ := HA.out (by omega)
        have hql : q < args.length := by rw [← HN.out]; exact hlt
        have hcq := HCC.out q hql
        have r1 : ∀ w', Below (w.heap.size + 1) wr w' → w'.rangeAt g (o + q * 8) (C q) := fun w' hw' => range_at (HBR.out.trans (hw'.mono (by omega))) hc1 hlt (O1.out q hlt)
        have hcall := fun (W : World) (hb : Below wr.heap.size wr W) => HE.out args[q] (List.getElem_mem hql) (C q) W (hcq.mono (mem_below (bl_tr HBR.out hb)))
        obtain ⟨xq, hxq⟩ : ∃ x, x = args[q] := ⟨_, rfl⟩
        rw [← hxq] at hcall hcq
        obtain ⟨e0, e1, e2, e3, e4, e5, e6, e7, ec⟩ := hcq.sh
        rw [ec] at r1 hcall
        have HXQ := Lib.hid hxq; have HEC := Lib.hid hcall; have RA := Lib.hid r1
        have IA := Lib.hid (show (Try.prog.info? 86).map (·.size) = some ([.int .i64 e0, .int .i64 e1, .string e2, .int .i64 e3, e4, e5, e6, e7] : List Value).length from Try.irE)
        have HGL : Hid (g3 < wr.heap.size) := Lib.hid (Nat.lt_of_lt_of_le HG3.out HBU.out.size)
        have HSM : Hid (w.heap.size + 1 ≤ wr.heap.size) := Lib.hid (by have := HFAR.out; have := HGL.out; omega)
        have HSG : Hid (w.heap.size + 1 ≤ g3) := Lib.hid (by have := HFAR.out; omega)
        have HGB : Hid (g3 < wc.heap.size) := HG3
        have HSB : Hid (wc.heap.size ≤ wr.heap.size) := Lib.hid HBU.out.size
        have hF0 : wr.cell? ⟨g3, 4, none⟩ = some (.slice AX q cX) := (cell_of_row _ _ 4 _ _ _ HKB.out).trans rfl
        have hk1 : (q : Int) < (n1 : Int) := by omega
        have hk0 : (0 : Int) ≤ (q : Int) := by omega
        have BB : ∀ w', Below (w.heap.size + 1) wr w' → w'.cell? ⟨w.heap.size, 4, none⟩ = some (.slice (some ⟨g, o, none⟩) n1 c) := fun w' hw' => ((cell_of_row _ _ 4 _ _ _ ((hw'.block _ (Nat.lt_succ_self _)).trans HBX.out)).trans rfl : w'.cell? ⟨w.heap.size, 4, none⟩ = some v1).trans (congrArg some HV1.out)
        clear hc1 r1 hcall hcq ec hxq
        go_wp2_with fail
        refine wp_region_held_drew (S := fun w' => Below (w.heap.size + 1) wr w') (by kernel_rfl) (Below.drew (Below.refl _ _)) (fun hHeld => ?_)
        refine wpAnyH_take (i := 0) (v := ?_) rfl (by kernel_rfl) (by kernel_rfl) (by kernel_rfl) (fun _ _ _ h => h) (Or.inl ⟨by rfl, ?_⟩) hHeld ?_
        rotate_left
        · (intro wS hSw; (try dsimp only at hSw); go_simp; try with_reducible rfl)
        (try simp only [Act.put, List.getElem_toArray, List.getElem_cons_zero, List.getElem_cons_succ, List.setIfInBounds_toArray, List.set_cons_zero, List.set_cons_succ])
        refine wpAnyH_take (i := 2) (v := ?_) rfl (by kernel_rfl) (by kernel_rfl) (by kernel_rfl) (fun _ _ _ h => h) (Or.inl ⟨by rfl, ?_⟩) hHeld ?_
        rotate_left
        · (intro wS hSw; (try dsimp only at hSw); go_simp; try with_reducible rfl)
        (try simp only [Act.put, List.getElem_toArray, List.getElem_cons_zero, List.getElem_cons_succ, List.setIfInBounds_toArray, List.set_cons_zero, List.set_cons_succ])
        refine wpAnyH_take (i := 3) (v := ?_) rfl (by kernel_rfl) (by kernel_rfl) (by kernel_rfl) (fun _ _ _ h => h) (Or.inl ⟨by rfl, ?_⟩) hHeld ?_
        rotate_left
        · (intro wS hSw; (try dsimp only at hSw); go_simp; try with_reducible rfl)
        (try simp only [Act.put, List.getElem_toArray, List.getElem_cons_zero, List.getElem_cons_succ, List.setIfInBounds_toArray, List.set_cons_zero, List.set_cons_succ])
        refine wpAnyH_take (i := 4) (v := ?_) rfl (by kernel_rfl) (by kernel_rfl) (by kernel_rfl) (fun _ _ _ h => h) (Or.inl ⟨by rfl, ?_⟩) hHeld ?_
        rotate_left
        · (intro wS hSw; (try dsimp only at hSw); go_simp; try with_reducible rfl)
        (try simp only [Act.put, List.getElem_toArray, List.getElem_cons_zero, List.getElem_cons_succ, List.setIfInBounds_toArray, List.set_cons_zero, List.set_cons_succ])
        refine wpAnyH_take (i := 5) (v := ?_) rfl (by kernel_rfl) (by kernel_rfl) (by kernel_rfl) (fun _ _ _ h => h) (Or.inl ⟨by rfl, ?_⟩) hHeld ?_
        rotate_left
        · (intro wS hSw; (try dsimp only at hSw); go_simp; try with_reducible rfl)
        (try simp only [Act.put, List.getElem_toArray, List.getElem_cons_zero, List.getElem_cons_succ, List.setIfInBounds_toArray, List.set_cons_zero, List.set_cons_succ])
        refine wpAnyH_take (i := 6) rfl (by kernel_rfl) (by kernel_rfl) (by kernel_rfl) (fun _ _ _ h => h) (yieldsIf_load_mid (by rfl) 86 (.tmp 33) rfl g (o + q * 8) rfl ([.int .i64 e0, .int .i64 e1, .string e2, .int .i64 e3, e4, e5, e6, e7]) _ RA.out Try.underlying86 rfl IA.out) hHeld ?_
        (try simp only [Act.put, List.getElem_toArray, List.getElem_cons_zero, List.getElem_cons_succ, List.setIfInBounds_toArray, List.set_cons_zero, List.set_cons_succ])
        refine wpAnyH_ready (rs := [1, 7]) (by kernel_rfl) (by simp) ?_
        refine AllReadyH.cons rfl (fun K hK => ?_) (AllReadyH.cons rfl (fun K hK => ?_) AllReadyH.nil)
        · (try simp only [List.getElem_toArray, List.getElem_cons_zero, List.getElem_cons_succ, List.setIfInBounds_toArray, List.set_cons_zero, List.set_cons_succ])
          try go_simp
          refine hK.out _ _ ?_ (fun hHeld => ?_)
          · exact Below.drew (Below.refl _ _)
          (try simp only [Act.put, List.getElem_toArray, List.getElem_cons_zero, List.getElem_cons_succ, List.setIfInBounds_toArray, List.set_cons_zero, List.set_cons_succ])
          refine wpAnyH_ready (rs := [7]) (by kernel_rfl) (by simp) ?_
          refine AllReadyH.cons rfl (fun K hK => ?_) AllReadyH.nil
          · (try simp only [List.getElem_toArray, List.getElem_cons_zero, List.getElem_cons_succ, List.setIfInBounds_toArray, List.set_cons_zero, List.set_cons_succ])
            try go_simp
            refine (HEC.out _ (Below.drew (Below.refl _ _))).mono ?_
            rintro e w2 ⟨cq, rfl, hb2, hT⟩
            obtain ⟨x0, x1, x2, x3, XA, xm, xc, XB, xn, xd, XC, xo, xe, XD, xp, xf, rfl⟩ := hT.sh3
            have HTw2 := Lib.hid hT
            have HBW : Hid (Below wr.heap.size wr w2) := Lib.hid (bl_tr (Below.drew (Below.refl _ _)) hb2)
            have HUw2 : Hid ((wr.drew).heap.size ≤ w2.heap.size ∧ Below (wr.drew).heap.size (wr.drew) w2) := Lib.hid ⟨hb2.size, hb2⟩
            have hFw2 : w2.cell? ⟨g3, 4, none⟩ = some (.slice AX q cX) := (cell_of_row _ _ 4 _ _ _ (bk_below HKB.out HBW.out)).trans rfl
            clear hb2 hT
            try go_simp
            refine hK.out _ _ ?_ (fun hHeld => ?_)
            · exact HBW.out.mono HSM.out
            (try simp only [Act.put, List.getElem_toArray, List.getElem_cons_zero, List.getElem_cons_succ, List.setIfInBounds_toArray, List.set_cons_zero, List.set_cons_succ])
            refine wpAnyH_ready (rs := [8]) (by kernel_rfl) (by simp) ?_
            refine AllReadyH.cons rfl (fun K hK => ?_) AllReadyH.nil
            · (try simp only [List.getElem_toArray, List.getElem_cons_zero, List.getElem_cons_succ, List.setIfInBounds_toArray, List.set_cons_zero, List.set_cons_succ])
              try go_simp
              refine hK.out _ _ ?_ (fun hHeld => ?_)
              · exact ((bl_al HBW.out _).mono HSM.out)
              (try simp only [Act.put, List.getElem_toArray, List.getElem_cons_zero, List.getElem_cons_succ, List.setIfInBounds_toArray, List.set_cons_zero, List.set_cons_succ])
              refine wpAnyH_ready (rs := [9]) (by kernel_rfl) (by simp) ?_
              refine AllReadyH.cons rfl (fun K hK => ?_) AllReadyH.nil
              · skip
                refine step_append_lies _ rfl (.tmp 29) (.tmp 36) 88 rfl wc.heap.size 93 gi0 (.agg #[.int .i64 0, .int .i64 0, .string { data := #[] }, .int .i64 0, .slice none 0 0, .slice none 0 0, .slice none 0 0, .slice none 0 0]) 8 136 Try.underlying88 hgi hgz0 hgzs hgzb rfl (by decide) (.slice AX q cX) q (flat q CX) rfl (HRW.out.below (GEx.mono args) (bl_al HBW.out _)).own ⟨w2.heap.size, 0, none⟩ 1 1 [.int .i64 x0, .int .i64 x1, .string x2, .int .i64 x3, .slice XA xm xc, .slice XB xn xd, .slice XC xo xe, .slice XD xp xf] rfl rfl (World.news_of_block (cs := #[.int .i64 x0, .int .i64 x1, .string x2, .int .i64 x3, .slice XA xm xc, .slice XB xn xd, .slice XC xo xe, .slice XD xp xf]) (t := 93) (fr := (0, 0)) (heap_alloc_new w2 _)) (by simp [Value.oneCell']) (by decide) (by unfold maxLen; omega) (by omega) (by simp; have := HBW.out.size; have := HSB.out; omega) (w2.heap.size + 1) (by simp) ?_
                intro g4 cap4 w4 hown4 hgrow4 hat4 hglt4
                have HOW := Lib.hid hown4; have HGR := Lib.hid hgrow4; have HAT := Lib.hid hat4; clear hown4 hgrow4 hat4 hglt4
                have HK4 : Hid (Blk w4 g3 93 #[.int .i64 kk, .int .i64 aa, .string ss, .int .i64 nn, .slice AX q cX, .slice Ap pats.length cp, .slice none 0 0, .slice Ad decls.length cd]) := Lib.hid ((HGR.out.block g3 (by have := HGL.out; have := HBW.out.size; simp; omega) (by intro e; have := (ownB_lt HRW.out.own e.symm).1; have := HGB.out; omega)).trans (bk_alloc (bk_below HKB.out HBW.out) _))
                have hc4 : w4.cell? ⟨g3, 4, none⟩ = some (.slice AX q cX) := (cell_of_row _ _ 4 _ _ _ HK4.out).trans rfl
                have hf4 : w4.frozen? ⟨g3, 4, none⟩ = false := frozen_of_row _ _ 4 _ _ HK4.out
                refine hK.out _ _ ?_ (fun hHeld => ?_)
                · exact (((bl_al HBW.out _).mono HSM.out)).grown HGR.out (by simp; have := HBW.out.size; have := HSM.out; omega) (fun k hk => by have := (ownB_lt HRW.out.own hk).1; have := HSG.out; have := HGB.out; omega)
                (try simp only [Act.put, List.getElem_toArray, List.getElem_cons_zero, List.getElem_cons_succ, List.setIfInBounds_toArray, List.set_cons_zero, List.set_cons_succ])
                refine wpAnyH_take (i := 10) (v := ?_) rfl (by kernel_rfl) (by kernel_rfl) (by kernel_rfl) (fun _ _ _ h => h) (Or.inl ⟨by rfl, ?_⟩) hHeld ?_
                rotate_left
                · (intro wS hSw; (try dsimp only at hSw); go_simp; try with_reducible rfl)
                (try simp only [Act.put, List.getElem_toArray, List.getElem_cons_zero, List.getElem_cons_succ, List.setIfInBounds_toArray, List.set_cons_zero, List.set_cons_succ])
                refine wpAnyH_ready (rs := [11]) (by kernel_rfl) (by simp) ?_
                refine AllReadyH.cons rfl (fun K hK => ?_) AllReadyH.nil
                · (try simp only [List.getElem_toArray, List.getElem_cons_zero, List.getElem_cons_succ, List.setIfInBounds_toArray, List.set_cons_zero, List.set_cons_succ])
                  try go_simp
                  refine hK.out _ _ ?_ (fun hHeld => ?_)
                  · exact ((((bl_al HBW.out _).mono HSM.out)).grown HGR.out (by simp; have := HBW.out.size; have := HSM.out; omega) (fun k hk => by have := (ownB_lt HRW.out.own hk).1; have := HSG.out; have := HGB.out; omega)).setCell HSG.out _
                  (try simp only [Act.put, List.getElem_toArray, List.getElem_cons_zero, List.getElem_cons_succ, List.setIfInBounds_toArray, List.set_cons_zero, List.set_cons_succ])
                  refine wpAnyH_done (by kernel_rfl) ?_ _
                  go_wp2_with fail
                  go_roundg (n1 - (q + 1))
                  case measure => omega
                  case rel =>
                    have hrp := RowX.push (GEx.mono args) (w := wr) (w2 := w2.alloc (.cells #[.int .i64 x0, .int .i64 x1, .string x2, .int .i64 x3, .slice XA xm xc, .slice XB xn xd, .slice XC xo xe, .slice XD xp xf] 93)) HRW.out (bl_al HBW.out _) (fun g hg => Nat.le_trans HSB.out hg) ⟨hql, by rw [← HXQ.out]; exact HTw2.out.mono (memX_le_X fun g hg hx => ⟨hx, Below.heap_alloc w2 _ g hg⟩)⟩ rfl HOW.out HGR.out (by have := HAT.out; simpa using this)
                    refine ⟨q + 1, by omega, rfl, by go_num, Lib.hid ⟨?_, some ⟨g4, 0, none⟩, cap4, _, ?_, RowX.same (GEx.mono args) hrp (fun k hk hx => Below.heap_setCell w4 _ _ k ?_)⟩⟩
                    · exact But.cell (HBU.out.trans (But.of ((bl_al HBW.out _).mono HSB.out |>.grown HGR.out (by simp; have := HBW.out.size; have := HSB.out; omega) (fun k hk => (ownB_lt HRW.out.own hk).1)))) _ _
                    · exact (heap_setCell_same w4 g3 4 _ _ _ HK4.out).trans rfl
                    · have := HGB.out
                      rcases hx with hx | hx
                      · show k ≠ g3; omega
                      · have := (ownB_lt hrp.own hx.symm).1; show k ≠ g3; omega
        · (try simp only [List.getElem_toArray, List.getElem_cons_zero, List.getElem_cons_succ, List.setIfInBounds_toArray, List.set_cons_zero, List.set_cons_succ])
          try go_simp
          refine (HEC.out _ (Below.drew (Below.refl _ _))).mono ?_
          rintro e w2 ⟨cq, rfl, hb2, hT⟩
          obtain ⟨x0, x1, x2, x3, XA, xm, xc, XB, xn, xd, XC, xo, xe, XD, xp, xf, rfl⟩ := hT.sh3
          have HTw2 := Lib.hid hT
          have HBW : Hid (Below wr.heap.size wr w2) := Lib.hid (bl_tr (Below.drew (Below.refl _ _)) hb2)
          have HUw2 : Hid ((wr.drew).heap.size ≤ w2.heap.size ∧ Below (wr.drew).heap.size (wr.drew) w2) := Lib.hid ⟨hb2.size, hb2⟩
          have hFw2 : w2.cell? ⟨g3, 4, none⟩ = some (.slice AX q cX) := (cell_of_row _ _ 4 _ _ _ (bk_below HKB.out HBW.out)).trans rfl
          clear hb2 hT
          try go_simp
          refine hK.out _ _ ?_ (fun hHeld => ?_)
          · exact HBW.out.mono HSM.out
          (try simp only [Act.put, List.getElem_toArray, List.getElem_cons_zero, List.getElem_cons_succ, List.setIfInBounds_toArray, List.set_cons_zero, List.set_cons_succ])
          refine wpAnyH_ready (rs := [1, 8]) (by kernel_rfl) (by simp) ?_
          refine AllReadyH.cons rfl (fun K hK => ?_) (AllReadyH.cons rfl (fun K hK => ?_) AllReadyH.nil)
          · (try simp only [List.getElem_toArray, List.getElem_cons_zero, List.getElem_cons_succ, List.setIfInBounds_toArray, List.set_cons_zero, List.set_cons_succ])
            try go_simp
            refine hK.out _ _ ?_ (fun hHeld => ?_)
            · exact HBW.out.mono HSM.out
            (try simp only [Act.put, List.getElem_toArray, List.getElem_cons_zero, List.getElem_cons_succ, List.setIfInBounds_toArray, List.set_cons_zero, List.set_cons_succ])
            refine wpAnyH_ready (rs := [8]) (by kernel_rfl) (by simp) ?_
            refine AllReadyH.cons rfl (fun K hK => ?_) AllReadyH.nil
            · (try simp only [List.getElem_toArray, List.getElem_cons_zero, List.getElem_cons_succ, List.setIfInBounds_toArray, List.set_cons_zero, List.set_cons_succ])
              try go_simp
              refine hK.out _ _ ?_ (fun hHeld => ?_)
              · exact ((bl_al HBW.out _).mono HSM.out)
              (try simp only [Act.put, List.getElem_toArray, List.getElem_cons_zero, List.getElem_cons_succ, List.setIfInBounds_toArray, List.set_cons_zero, List.set_cons_succ])
              refine wpAnyH_ready (rs := [9]) (by kernel_rfl) (by simp) ?_
              refine AllReadyH.cons rfl (fun K hK => ?_) AllReadyH.nil
              · skip
                refine step_append_lies _ rfl (.tmp 29) (.tmp 36) 88 rfl wc.heap.size 93 gi0 (.agg #[.int .i64 0, .int .i64 0, .string { data := #[] }, .int .i64 0, .slice none 0 0, .slice none 0 0, .slice none 0 0, .slice none 0 0]) 8 136 Try.underlying88 hgi hgz0 hgzs hgzb rfl (by decide) (.slice AX q cX) q (flat q CX) rfl (HRW.out.below (GEx.mono args) (bl_al HBW.out _)).own ⟨w2.heap.size, 0, none⟩ 1 1 [.int .i64 x0, .int .i64 x1, .string x2, .int .i64 x3, .slice XA xm xc, .slice XB xn xd, .slice XC xo xe, .slice XD xp xf] rfl rfl (World.news_of_block (cs := #[.int .i64 x0, .int .i64 x1, .string x2, .int .i64 x3, .slice XA xm xc, .slice XB xn xd, .slice XC xo xe, .slice XD xp xf]) (t := 93) (fr := (0, 0)) (heap_alloc_new w2 _)) (by simp [Value.oneCell']) (by decide) (by unfold maxLen; omega) (by omega) (by simp; have := HBW.out.size; have := HSB.out; omega) (w2.heap.size + 1) (by simp) ?_
                intro g4 cap4 w4 hown4 hgrow4 hat4 hglt4
                have HOW := Lib.hid hown4; have HGR := Lib.hid hgrow4; have HAT := Lib.hid hat4; clear hown4 hgrow4 hat4 hglt4
                have HK4 : Hid (Blk w4 g3 93 #[.int .i64 kk, .int .i64 aa, .string ss, .int .i64 nn, .slice AX q cX, .slice Ap pats.length cp, .slice none 0 0, .slice Ad decls.length cd]) := Lib.hid ((HGR.out.block g3 (by have := HGL.out; have := HBW.out.size; simp; omega) (by intro e; have := (ownB_lt HRW.out.own e.symm).1; have := HGB.out; omega)).trans (bk_alloc (bk_below HKB.out HBW.out) _))
                have hc4 : w4.cell? ⟨g3, 4, none⟩ = some (.slice AX q cX) := (cell_of_row _ _ 4 _ _ _ HK4.out).trans rfl
                have hf4 : w4.frozen? ⟨g3, 4, none⟩ = false := frozen_of_row _ _ 4 _ _ HK4.out
                refine hK.out _ _ ?_ (fun hHeld => ?_)
                · exact (((bl_al HBW.out _).mono HSM.out)).grown HGR.out (by simp; have := HBW.out.size; have := HSM.out; omega) (fun k hk => by have := (ownB_lt HRW.out.own hk).1; have := HSG.out; have := HGB.out; omega)
                (try simp only [Act.put, List.getElem_toArray, List.getElem_cons_zero, List.getElem_cons_succ, List.setIfInBounds_toArray, List.set_cons_zero, List.set_cons_succ])
                refine wpAnyH_take (i := 10) (v := ?_) rfl (by kernel_rfl) (by kernel_rfl) (by kernel_rfl) (fun _ _ _ h => h) (Or.inl ⟨by rfl, ?_⟩) hHeld ?_
                rotate_left
                · (intro wS hSw; (try dsimp only at hSw); go_simp; try with_reducible rfl)
                (try simp only [Act.put, List.getElem_toArray, List.getElem_cons_zero, List.getElem_cons_succ, List.setIfInBounds_toArray, List.set_cons_zero, List.set_cons_succ])
                refine wpAnyH_ready (rs := [11]) (by kernel_rfl) (by simp) ?_
                refine AllReadyH.cons rfl (fun K hK => ?_) AllReadyH.nil
                · (try simp only [List.getElem_toArray, List.getElem_cons_zero, List.getElem_cons_succ, List.setIfInBounds_toArray, List.set_cons_zero, List.set_cons_succ])
                  try go_simp
                  refine hK.out _ _ ?_ (fun hHeld => ?_)
                  · exact ((((bl_al HBW.out _).mono HSM.out)).grown HGR.out (by simp; have := HBW.out.size; have := HSM.out; omega) (fun k hk => by have := (ownB_lt HRW.out.own hk).1; have := HSG.out; have := HGB.out; omega)).setCell HSG.out _
                  (try simp only [Act.put, List.getElem_toArray, List.getElem_cons_zero, List.getElem_cons_succ, List.setIfInBounds_toArray, List.set_cons_zero, List.set_cons_succ])
                  refine wpAnyH_done (by kernel_rfl) ?_ _
                  go_wp2_with fail
                  go_roundg (n1 - (q + 1))
                  case measure => omega
                  case rel =>
                    have hrp := RowX.push (GEx.mono args) (w := wr) (w2 := w2.alloc (.cells #[.int .i64 x0, .int .i64 x1, .string x2, .int .i64 x3, .slice XA xm xc, .slice XB xn xd, .slice XC xo xe, .slice XD xp xf] 93)) HRW.out (bl_al HBW.out _) (fun g hg => Nat.le_trans HSB.out hg) ⟨hql, by rw [← HXQ.out]; exact HTw2.out.mono (memX_le_X fun g hg hx => ⟨hx, Below.heap_alloc w2 _ g hg⟩)⟩ rfl HOW.out HGR.out (by have := HAT.out; simpa using this)
                    refine ⟨q + 1, by omega, rfl, by go_num, Lib.hid ⟨?_, some ⟨g4, 0, none⟩, cap4, _, ?_, RowX.same (GEx.mono args) hrp (fun k hk hx => Below.heap_setCell w4 _ _ k ?_)⟩⟩
                    · exact But.cell (HBU.out.trans (But.of ((bl_al HBW.out _).mono HSB.out |>.grown HGR.out (by simp; have := HBW.out.size; have := HSB.out; omega) (fun k hk => (ownB_lt HRW.out.own hk).1)))) _ _
                    · exact (heap_setCell_same w4 g3 4 _ _ _ HK4.out).trans rfl
                    · have := HGB.out
                      rcases hx with hx | hx
                      · show k ≠ g3; omega
                      · have := (ownB_lt hrp.own hx.symm).1; show k ≠ g3; omega
          · (try simp only [List.getElem_toArray, List.getElem_cons_zero, List.getElem_cons_succ, List.setIfInBounds_toArray, List.set_cons_zero, List.set_cons_succ])
            try go_simp
            have hF5 : (w2.alloc (.cells #[.int .i64 x0, .int .i64 x1, .string x2, .int .i64 x3, .slice XA xm xc, .slice XB xn xd, .slice XC xo xe, .slice XD xp xf] 93)).cell? ⟨g3, 4, none⟩ = some (.slice AX q cX) := (cell_of_row _ _ 4 _ _ _ (bk_alloc (bk_below HKB.out HBW.out) _)).trans rfl
            try go_simp
            refine hK.out _ _ ?_ (fun hHeld => ?_)
            · exact ((bl_al HBW.out _).mono HSM.out)
            (try simp only [Act.put, List.getElem_toArray, List.getElem_cons_zero, List.getElem_cons_succ, List.setIfInBounds_toArray, List.set_cons_zero, List.set_cons_succ])
            refine wpAnyH_ready (rs := [1]) (by kernel_rfl) (by simp) ?_
            refine AllReadyH.cons rfl (fun K hK => ?_) AllReadyH.nil
            · (try simp only [List.getElem_toArray, List.getElem_cons_zero, List.getElem_cons_succ, List.setIfInBounds_toArray, List.set_cons_zero, List.set_cons_succ])
              try go_simp
              refine hK.out _ _ ?_ (fun hHeld => ?_)
              · exact ((bl_al HBW.out _).mono HSM.out)
              (try simp only [Act.put, List.getElem_toArray, List.getElem_cons_zero, List.getElem_cons_succ, List.setIfInBounds_toArray, List.set_cons_zero, List.set_cons_succ])
              refine wpAnyH_ready (rs := [9]) (by kernel_rfl) (by simp) ?_
              refine AllReadyH.cons rfl (fun K hK => ?_) AllReadyH.nil
              · skip
                refine step_append_lies _ rfl (.tmp 29) (.tmp 36) 88 rfl wc.heap.size 93 gi0 (.agg #[.int .i64 0, .int .i64 0, .string { data := #[] }, .int .i64 0, .slice none 0 0, .slice none 0 0, .slice none 0 0, .slice none 0 0]) 8 136 Try.underlying88 hgi hgz0 hgzs hgzb rfl (by decide) (.slice AX q cX) q (flat q CX) rfl (HRW.out.below (GEx.mono args) (bl_al HBW.out _)).own ⟨w2.heap.size, 0, none⟩ 1 1 [.int .i64 x0, .int .i64 x1, .string x2, .int .i64 x3, .slice XA xm xc, .slice XB xn xd, .slice XC xo xe, .slice XD xp xf] rfl rfl (World.news_of_block (cs := #[.int .i64 x0, .int .i64 x1, .string x2, .int .i64 x3, .slice XA xm xc, .slice XB xn xd, .slice XC xo xe, .slice XD xp xf]) (t := 93) (fr := (0, 0)) (heap_alloc_new w2 _)) (by simp [Value.oneCell']) (by decide) (by unfold maxLen; omega) (by omega) (by simp; have := HBW.out.size; have := HSB.out; omega) (w2.heap.size + 1) (by simp) ?_
                intro g4 cap4 w4 hown4 hgrow4 hat4 hglt4
                have HOW := Lib.hid hown4; have HGR := Lib.hid hgrow4; have HAT := Lib.hid hat4; clear hown4 hgrow4 hat4 hglt4
                have HK4 : Hid (Blk w4 g3 93 #[.int .i64 kk, .int .i64 aa, .string ss, .int .i64 nn, .slice AX q cX, .slice Ap pats.length cp, .slice none 0 0, .slice Ad decls.length cd]) := Lib.hid ((HGR.out.block g3 (by have := HGL.out; have := HBW.out.size; simp; omega) (by intro e; have := (ownB_lt HRW.out.own e.symm).1; have := HGB.out; omega)).trans (bk_alloc (bk_below HKB.out HBW.out) _))
                have hc4 : w4.cell? ⟨g3, 4, none⟩ = some (.slice AX q cX) := (cell_of_row _ _ 4 _ _ _ HK4.out).trans rfl
                have hf4 : w4.frozen? ⟨g3, 4, none⟩ = false := frozen_of_row _ _ 4 _ _ HK4.out
                refine hK.out _ _ ?_ (fun hHeld => ?_)
                · exact (((bl_al HBW.out _).mono HSM.out)).grown HGR.out (by simp; have := HBW.out.size; have := HSM.out; omega) (fun k hk => by have := (ownB_lt HRW.out.own hk).1; have := HSG.out; have := HGB.out; omega)
                (try simp only [Act.put, List.getElem_toArray, List.getElem_cons_zero, List.getElem_cons_succ, List.setIfInBounds_toArray, List.set_cons_zero, List.set_cons_succ])
                refine wpAnyH_take (i := 10) (v := ?_) rfl (by kernel_rfl) (by kernel_rfl) (by kernel_rfl) (fun _ _ _ h => h) (Or.inl ⟨by rfl, ?_⟩) hHeld ?_
                rotate_left
                · (intro wS hSw; (try dsimp only at hSw); go_simp; try with_reducible rfl)
                (try simp only [Act.put, List.getElem_toArray, List.getElem_cons_zero, List.getElem_cons_succ, List.setIfInBounds_toArray, List.set_cons_zero, List.set_cons_succ])
                refine wpAnyH_ready (rs := [11]) (by kernel_rfl) (by simp) ?_
                refine AllReadyH.cons rfl (fun K hK => ?_) AllReadyH.nil
                · (try simp only [List.getElem_toArray, List.getElem_cons_zero, List.getElem_cons_succ, List.setIfInBounds_toArray, List.set_cons_zero, List.set_cons_succ])
                  try go_simp
                  refine hK.out _ _ ?_ (fun hHeld => ?_)
                  · exact ((((bl_al HBW.out _).mono HSM.out)).grown HGR.out (by simp; have := HBW.out.size; have := HSM.out; omega) (fun k hk => by have := (ownB_lt HRW.out.own hk).1; have := HSG.out; have := HGB.out; omega)).setCell HSG.out _
                  (try simp only [Act.put, List.getElem_toArray, List.getElem_cons_zero, List.getElem_cons_succ, List.setIfInBounds_toArray, List.set_cons_zero, List.set_cons_succ])
                  refine wpAnyH_done (by kernel_rfl) ?_ _
                  go_wp2_with fail
                  go_roundg (n1 - (q + 1))
                  case measure => omega
                  case rel =>
                    have hrp := RowX.push (GEx.mono args) (w := wr) (w2 := w2.alloc (.cells #[.int .i64 x0, .int .i64 x1, .string x2, .int .i64 x3, .slice XA xm xc, .slice XB xn xd, .slice XC xo xe, .slice XD xp xf] 93)) HRW.out (bl_al HBW.out _) (fun g hg => Nat.le_trans HSB.out hg) ⟨hql, by rw [← HXQ.out]; exact HTw2.out.mono (memX_le_X fun g hg hx => ⟨hx, Below.heap_alloc w2 _ g hg⟩)⟩ rfl HOW.out HGR.out (by have := HAT.out; simpa using this)
                    refine ⟨q + 1, by omega, rfl, by go_num, Lib.hid ⟨?_, some ⟨g4, 0, none⟩, cap4, _, ?_, RowX.same (GEx.mono args) hrp (fun k hk hx => Below.heap_setCell w4 _ _ k ?_)⟩⟩
                    · exact But.cell (HBU.out.trans (But.of ((bl_al HBW.out _).mono HSB.out |>.grown HGR.out (by simp; have := HBW.out.size; have := HSB.out; omega) (fun k hk => (ownB_lt HRW.out.own hk).1)))) _ _
                    · exact (heap_setCell_same w4 g3 4 _ _ _ HK4.out).trans rfl
                    · have := HGB.out
                      rcases hx with hx | hx
                      · show k ≠ g3; omega
                      · have := (ownB_lt hrp.own hx.symm).1; show k ≠ g3; omega
      · obtain rfl : n1 = q := by omega
        obtain ⟨wo, rfl⟩ : ∃ wo : World, wo = wr := ⟨_, rfl⟩
        obtain ⟨A1, rfl⟩ : ∃ x : Option Addr, x = AX := ⟨_, rfl⟩
        obtain ⟨c1, rfl⟩ : ∃ x : Nat, x = cX := ⟨_, rfl⟩
        obtain ⟨C1, rfl⟩ : ∃ x : Nat → List Value, x = CX := ⟨_, rfl⟩
        have HBU1 := HBU; have HKB1 := HKB; have HRW1 := HRW; have HG31 := HG3
        clear HG3 HBW0 HBX0 HRS0
        have HG3 : Hid (g3 < wo.heap.size) := Lib.hid (Nat.lt_of_lt_of_le HG31.out HBU1.out.size)
        have HBW0 := HBR; have HBX0 := HBX; have HRS0 := HRS
        clear HBU HKB HRW HBR HBX HRS
        go_wp2_with fail
        clear hce
        go_loopg [5] n2 (fun gk i wr => ∃ q : Nat, q ≤ n2 ∧ gk = n2 - q ∧ i = .int .i64 q ∧ Hid (But wo.heap.size g3 wo wr ∧ ∃ A2 c2 C3, Blk wr g3 93 #[.int .i64 kk, .int .i64 aa, .string ss, .int .i64 nn, .slice A1 n1 c1, .slice Ap pats.length cp, .slice A2 q c2, .slice Ad decls.length cd] ∧ RowX wr (wo.heap.size ≤ ·) wo.heap.size 135 13 (.slice A2 q c2) q C3 (GAl alts)))
        case atStart => exact ⟨0, Nat.zero_le _, rfl, rfl, Lib.hid ⟨But.refl _ _ _, none, 0, fun _ => [], HKB1.out, RowX.nil _ _ _ _ _ _ _⟩⟩
        case round =>
          obtain ⟨q, hq, rfl, rfl, HL⟩ := hrel
          obtain ⟨hbut, AX, cX, CX, hkb, hrw⟩ := HL.out
          clear HL
          have hbC : Below (w.heap.size + 2) wo wr := hbut.below HFAR.out (by have := HFAR.out; have := HG3.out; omega)
          have HBR : Hid (Below w.heap.size w wr) := Lib.hid (HBW0.out.trans (hbC.mono (by omega)))
          have HBX : Hid (Blk wr w.heap.size 86 #[.int .i64 kk, .int .i64 aa, .string ss, .int .i64 nn, v1, v2, v3, v4]) := Lib.hid ((hbC.block _ (by omega)).trans HBX0.out)
          have hce : wr.cell? ⟨w.heap.size, 6, none⟩ = some (.slice A3 n2 c3) := ((cell_of_row _ _ 6 _ _ _ HBX.out).trans rfl : wr.cell? ⟨w.heap.size, 6, none⟩ = some v3).trans (congrArg some HV3.out)
          have HBU := Lib.hid hbut; have HKB := Lib.hid hkb; have HRW := Lib.hid hrw
          have HRS : Hid (Blk wr (w.heap.size + 1) 93 #[.int .i64 0, .int .i64 0, .string { data := #[] }, .int .i64 0, .slice none 0 0, .slice none 0 0, .slice none 0 0, .slice none 0 0]) := Lib.hid ((hbC.block _ (by omega)).trans HRS0.out)
          clear hbut hkb hrw hbC
          by_cases hlt : q < n2
          · obtain ⟨gi0, hgi, hgz0, hgzs, hgzb⟩ := info_parts Try.infoAA
            obtain ⟨g, o, rfl, hc1⟩ := HA3.out (by omega)
            have hql : q < alts.length := by rw [← HN2.out]; exact hlt
            have hcq := HCC3.out q hql
            have r1 : ∀ w', Below (w.heap.size + 1) wr w' → w'.rangeAt g (o + q * 13) (C3 q) := fun w' hw' => range_at (HBR.out.trans (hw'.mono (by omega))) hc1 hlt (O3.out q hlt)
            have hmem : alts[q] ∈ alts := List.getElem_mem hql
            obtain ⟨xq, hxq⟩ : ∃ x, x = alts[q] := ⟨_, rfl⟩
            rw [← hxq] at hmem hcq
            obtain ⟨p, b⟩ := xq
            obtain ⟨cp', cb', ec, hp, hb⟩ := hcq.inv
            rw [ec] at r1
            have hcallP := fun (W : World) (hbb : Below wr.heap.size wr W) => HPA.out p b hmem cp' W (hp.mono (mem_below (bl_tr HBR.out hbb)))
            have hcallE := fun (W : World) (hbb : Below wr.heap.size wr W) => HEA.out p b hmem cb' W (hb.mono (mem_below (bl_tr HBR.out hbb)))
            obtain ⟨p0, p1, p2, p3, p4, rfl⟩ := hp.sh
            obtain ⟨e0, e1, e2, e3, e4, e5, e6, e7, rfl⟩ := hb.sh
            have HXQ := Lib.hid hxq; have HEC := Lib.hid hcallE; have HPC := Lib.hid hcallP
            have RP := Lib.hid (fun (w' : World) (hw' : Below (w.heap.size + 1) wr w') => rg_left (r1 w' hw'))
            have RA := Lib.hid (fun (w' : World) (hw' : Below (w.heap.size + 1) wr w') => rg_right (n := 5) (r1 w' hw') rfl)
            have IA := Lib.hid (show (Try.prog.info? 86).map (·.size) = some ([.int .i64 e0, .int .i64 e1, .string e2, .int .i64 e3, e4, e5, e6, e7] : List Value).length from Try.irE)
            have IP := Lib.hid (show (Try.prog.info? 131).map (·.size) = some ([.int .i64 p0, .int .i64 p1, .string p2, .int .i64 p3, p4] : List Value).length from Try.irP)
            have HGL : Hid (g3 < wr.heap.size) := Lib.hid (Nat.lt_of_lt_of_le HG3.out HBU.out.size)
            have HSM : Hid (w.heap.size + 1 ≤ wr.heap.size) := Lib.hid (by have := HFAR.out; have := HGL.out; omega)
            have HSG : Hid (w.heap.size + 1 ≤ g3) := Lib.hid (by have := HFAR.out; omega)
            have HGB : Hid (g3 < wo.heap.size) := HG3
            have HSB : Hid (wo.heap.size ≤ wr.heap.size) := Lib.hid HBU.out.size
            have hF0 : wr.cell? ⟨g3, 6, none⟩ = some (.slice AX q cX) := (cell_of_row _ _ 6 _ _ _ HKB.out).trans rfl
            have hk1 : (q : Int) < (n2 : Int) := by omega
            have hk0 : (0 : Int) ≤ (q : Int) := by omega
            have BB : ∀ w', Below (w.heap.size + 1) wr w' → w'.cell? ⟨w.heap.size, 6, none⟩ = some (.slice (some ⟨g, o, none⟩) n2 c3) := fun w' hw' => ((cell_of_row _ _ 6 _ _ _ ((hw'.block _ (Nat.lt_succ_self _)).trans HBX.out)).trans rfl : w'.cell? ⟨w.heap.size, 6, none⟩ = some v3).trans (congrArg some HV3.out)
            clear hc1 r1 hcallP hcallE hcq ec hxq hp hb hmem
            go_wp2_with fail
            refine wp_region_held_drew (S := fun w' => Below (w.heap.size + 1) wr w') (by kernel_rfl) (Below.drew (Below.refl _ _)) (fun hHeld => ?_)
            refine wpAnyH_take (i := 0) (v := ?_) rfl (by kernel_rfl) (by kernel_rfl) (by kernel_rfl) (fun _ _ _ h => h) (Or.inl ⟨by rfl, ?_⟩) hHeld ?_
            rotate_left
            · (intro wS hSw; (try dsimp only at hSw); go_simp; try with_reducible rfl)
            (try simp only [Act.put, List.getElem_toArray, List.getElem_cons_zero, List.getElem_cons_succ, List.setIfInBounds_toArray, List.set_cons_zero, List.set_cons_succ])
            refine wpAnyH_take (i := 2) (v := ?_) rfl (by kernel_rfl) (by kernel_rfl) (by kernel_rfl) (fun _ _ _ h => h) (Or.inl ⟨by rfl, ?_⟩) hHeld ?_
            rotate_left
            · (intro wS hSw; (try dsimp only at hSw); go_simp; try with_reducible rfl)
            (try simp only [Act.put, List.getElem_toArray, List.getElem_cons_zero, List.getElem_cons_succ, List.setIfInBounds_toArray, List.set_cons_zero, List.set_cons_succ])
            refine wpAnyH_take (i := 3) (v := ?_) rfl (by kernel_rfl) (by kernel_rfl) (by kernel_rfl) (fun _ _ _ h => h) (Or.inl ⟨by rfl, ?_⟩) hHeld ?_
            rotate_left
            · (intro wS hSw; (try dsimp only at hSw); go_simp; try with_reducible rfl)
            (try simp only [Act.put, List.getElem_toArray, List.getElem_cons_zero, List.getElem_cons_succ, List.setIfInBounds_toArray, List.set_cons_zero, List.set_cons_succ])
            refine wpAnyH_take (i := 4) (v := ?_) rfl (by kernel_rfl) (by kernel_rfl) (by kernel_rfl) (fun _ _ _ h => h) (Or.inl ⟨by rfl, ?_⟩) hHeld ?_
            rotate_left
            · (intro wS hSw; (try dsimp only at hSw); go_simp; try with_reducible rfl)
            (try simp only [Act.put, List.getElem_toArray, List.getElem_cons_zero, List.getElem_cons_succ, List.setIfInBounds_toArray, List.set_cons_zero, List.set_cons_succ])
            refine wpAnyH_take (i := 5) (v := ?_) rfl (by kernel_rfl) (by kernel_rfl) (by kernel_rfl) (fun _ _ _ h => h) (Or.inl ⟨by rfl, ?_⟩) hHeld ?_
            rotate_left
            · (intro wS hSw; (try dsimp only at hSw); go_simp; try with_reducible rfl)
            (try simp only [Act.put, List.getElem_toArray, List.getElem_cons_zero, List.getElem_cons_succ, List.setIfInBounds_toArray, List.set_cons_zero, List.set_cons_succ])
            refine wpAnyH_take (i := 6) (v := ?_) rfl (by kernel_rfl) (by kernel_rfl) (by kernel_rfl) (fun _ _ _ h => h) (Or.inl ⟨by rfl, ?_⟩) hHeld ?_
            rotate_left
            · (intro wS hSw; (try dsimp only at hSw); go_simp; try with_reducible rfl)
            (try simp only [Act.put, List.getElem_toArray, List.getElem_cons_zero, List.getElem_cons_succ, List.setIfInBounds_toArray, List.set_cons_zero, List.set_cons_succ])
            refine wpAnyH_take (i := 7) rfl (by kernel_rfl) (by kernel_rfl) (by kernel_rfl) (fun _ _ _ h => h) (yieldsIf_load_mid (by rfl) 131 (.tmp 52) rfl g (o + q * 13) rfl ([.int .i64 p0, .int .i64 p1, .string p2, .int .i64 p3, p4]) _ RP.out Try.underlying131 rfl IP.out) hHeld ?_
            (try simp only [Act.put, List.getElem_toArray, List.getElem_cons_zero, List.getElem_cons_succ, List.setIfInBounds_toArray, List.set_cons_zero, List.set_cons_succ])
            refine wpAnyH_take (i := 9) (v := ?_) rfl (by kernel_rfl) (by kernel_rfl) (by kernel_rfl) (fun _ _ _ h => h) (Or.inl ⟨by rfl, ?_⟩) hHeld ?_
            rotate_left
            · (intro wS hSw; (try dsimp only at hSw); go_simp; try with_reducible rfl)
            (try simp only [Act.put, List.getElem_toArray, List.getElem_cons_zero, List.getElem_cons_succ, List.setIfInBounds_toArray, List.set_cons_zero, List.set_cons_succ])
            refine wpAnyH_take (i := 10) (v := ?_) rfl (by kernel_rfl) (by kernel_rfl) (by kernel_rfl) (fun _ _ _ h => h) (Or.inl ⟨by rfl, ?_⟩) hHeld ?_
            rotate_left
            · (intro wS hSw; (try dsimp only at hSw); go_simp; try with_reducible rfl)
            (try simp only [Act.put, List.getElem_toArray, List.getElem_cons_zero, List.getElem_cons_succ, List.setIfInBounds_toArray, List.set_cons_zero, List.set_cons_succ])
            refine wpAnyH_take (i := 11) (v := ?_) rfl (by kernel_rfl) (by kernel_rfl) (by kernel_rfl) (fun _ _ _ h => h) (Or.inl ⟨by rfl, ?_⟩) hHeld ?_
            rotate_left
            · (intro wS hSw; (try dsimp only at hSw); go_simp; try with_reducible rfl)
            (try simp only [Act.put, List.getElem_toArray, List.getElem_cons_zero, List.getElem_cons_succ, List.setIfInBounds_toArray, List.set_cons_zero, List.set_cons_succ])
            refine wpAnyH_take (i := 12) (v := ?_) rfl (by kernel_rfl) (by kernel_rfl) (by kernel_rfl) (fun _ _ _ h => h) (Or.inl ⟨by rfl, ?_⟩) hHeld ?_
            rotate_left
            · (intro wS hSw; (try dsimp only at hSw); go_simp; try with_reducible rfl)
            (try simp only [Act.put, List.getElem_toArray, List.getElem_cons_zero, List.getElem_cons_succ, List.setIfInBounds_toArray, List.set_cons_zero, List.set_cons_succ])
            refine wpAnyH_take (i := 13) (v := ?_) rfl (by kernel_rfl) (by kernel_rfl) (by kernel_rfl) (fun _ _ _ h => h) (Or.inl ⟨by rfl, ?_⟩) hHeld ?_
            rotate_left
            · (intro wS hSw; (try dsimp only at hSw); go_simp; try with_reducible rfl)
            (try simp only [Act.put, List.getElem_toArray, List.getElem_cons_zero, List.getElem_cons_succ, List.setIfInBounds_toArray, List.set_cons_zero, List.set_cons_succ])
            refine wpAnyH_take (i := 14) rfl (by kernel_rfl) (by kernel_rfl) (by kernel_rfl) (fun _ _ _ h => h) (yieldsIf_load_mid (by rfl) 86 (.tmp 59) rfl g (o + q * 13 + 5) rfl ([.int .i64 e0, .int .i64 e1, .string e2, .int .i64 e3, e4, e5, e6, e7]) _ RA.out Try.underlying86 rfl IA.out) hHeld ?_
            (try simp only [Act.put, List.getElem_toArray, List.getElem_cons_zero, List.getElem_cons_succ, List.setIfInBounds_toArray, List.set_cons_zero, List.set_cons_succ])
            refine wpAnyH_ready (rs := [1, 8]) (by kernel_rfl) (by simp) ?_
            refine AllReadyH.cons rfl (fun K hK => ?_) (AllReadyH.cons rfl (fun K hK => ?_) AllReadyH.nil)
            · (try simp only [List.getElem_toArray, List.getElem_cons_zero, List.getElem_cons_succ, List.setIfInBounds_toArray, List.set_cons_zero, List.set_cons_succ])
              try go_simp
              refine hK.out _ _ ?_ (fun hHeld => ?_)
              · exact Below.drew (Below.refl _ _)
              (try simp only [Act.put, List.getElem_toArray, List.getElem_cons_zero, List.getElem_cons_succ, List.setIfInBounds_toArray, List.set_cons_zero, List.set_cons_succ])
              refine wpAnyH_ready (rs := [8]) (by kernel_rfl) (by simp) ?_
              refine AllReadyH.cons rfl (fun K hK => ?_) AllReadyH.nil
              · (try simp only [List.getElem_toArray, List.getElem_cons_zero, List.getElem_cons_succ, List.setIfInBounds_toArray, List.set_cons_zero, List.set_cons_succ])
                try go_simp
                refine (HPC.out _ (Below.drew (Below.refl _ _))).mono ?_
                rintro e w2 ⟨cq, rfl, hb2, hT⟩
                obtain ⟨y0, y1, y2, y3, YA, ym, yc, rfl⟩ := hT.sh3
                have HTw2 := Lib.hid hT
                have HBW : Hid (Below wr.heap.size wr w2) := Lib.hid (bl_tr (Below.drew (Below.refl _ _)) hb2)
                have HUw2 : Hid ((wr.drew).heap.size ≤ w2.heap.size ∧ Below (wr.drew).heap.size (wr.drew) w2) := Lib.hid ⟨hb2.size, hb2⟩
                have hFw2 : w2.cell? ⟨g3, 6, none⟩ = some (.slice AX q cX) := (cell_of_row _ _ 6 _ _ _ (bk_below HKB.out HBW.out)).trans rfl
                clear hb2 hT
                try go_simp
                refine hK.out _ _ ?_ (fun hHeld => ?_)
                · exact HBW.out.mono HSM.out
                (try simp only [Act.put, List.getElem_toArray, List.getElem_cons_zero, List.getElem_cons_succ, List.setIfInBounds_toArray, List.set_cons_zero, List.set_cons_succ])
                refine wpAnyH_ready (rs := [15]) (by kernel_rfl) (by simp) ?_
                refine AllReadyH.cons rfl (fun K hK => ?_) AllReadyH.nil
                · (try simp only [List.getElem_toArray, List.getElem_cons_zero, List.getElem_cons_succ, List.setIfInBounds_toArray, List.set_cons_zero, List.set_cons_succ])
                  try go_simp
                  have HBV := HBW
                  clear HBW
                  refine (HEC.out _ (HBV.out)).mono ?_
                  rintro e w3 ⟨cq, rfl, hb2, hT⟩
                  obtain ⟨x0, x1, x2, x3, XA, xm, xc, XB, xn, xd, XC, xo, xe, XD, xp, xf, rfl⟩ := hT.sh3
                  have HTw3 := Lib.hid hT
                  have HBW : Hid (Below wr.heap.size wr w3) := Lib.hid (bl_tr (HBV.out) hb2)
                  have HUw3 : Hid ((w2).heap.size ≤ w3.heap.size ∧ Below (w2).heap.size (w2) w3) := Lib.hid ⟨hb2.size, hb2⟩
                  have hFw3 : w3.cell? ⟨g3, 6, none⟩ = some (.slice AX q cX) := (cell_of_row _ _ 6 _ _ _ (bk_below HKB.out HBW.out)).trans rfl
                  clear hb2 hT
                  try go_simp
                  refine hK.out _ _ ?_ (fun hHeld => ?_)
                  · exact HBW.out.mono HSM.out
                  (try simp only [Act.put, List.getElem_toArray, List.getElem_cons_zero, List.getElem_cons_succ, List.setIfInBounds_toArray, List.set_cons_zero, List.set_cons_succ])
                  refine wpAnyH_take (i := 16) (v := ?_) rfl (by kernel_rfl) (by kernel_rfl) (by kernel_rfl) (fun _ _ _ h => h) (Or.inl ⟨by rfl, ?_⟩) hHeld ?_
                  rotate_left
                  · (intro wS hSw; (try dsimp only at hSw); go_simp; try with_reducible rfl)
                  (try simp only [Act.put, List.getElem_toArray, List.getElem_cons_zero, List.getElem_cons_succ, List.setIfInBounds_toArray, List.set_cons_zero, List.set_cons_succ])
                  refine wpAnyH_ready (rs := [17]) (by kernel_rfl) (by simp) ?_
                  refine AllReadyH.cons rfl (fun K hK => ?_) AllReadyH.nil
                  · (try simp only [List.getElem_toArray, List.getElem_cons_zero, List.getElem_cons_succ, List.setIfInBounds_toArray, List.set_cons_zero, List.set_cons_succ])
                    try go_simp
                    refine hK.out _ _ ?_ (fun hHeld => ?_)
                    · exact ((bl_al HBW.out _).mono HSM.out)
                    (try simp only [Act.put, List.getElem_toArray, List.getElem_cons_zero, List.getElem_cons_succ, List.setIfInBounds_toArray, List.set_cons_zero, List.set_cons_succ])
                    refine wpAnyH_ready (rs := [18]) (by kernel_rfl) (by simp) ?_
                    refine AllReadyH.cons rfl (fun K hK => ?_) AllReadyH.nil
                    · skip
                      refine step_append_lies _ rfl (.tmp 47) (.tmp 63) 90 rfl wo.heap.size 135 gi0 (.agg #[.int .i64 0, .int .i64 0, .string { data := #[] }, .int .i64 0, .slice none 0 0, .int .i64 0, .int .i64 0, .string { data := #[] }, .int .i64 0, .slice none 0 0, .slice none 0 0, .slice none 0 0, .slice none 0 0]) 13 200 Try.underlying90 hgi hgz0 hgzs hgzb rfl (by decide) (.slice AX q cX) q (flat q CX) rfl (HRW.out.below (GAl.mono alts) (bl_al HBW.out _)).own ⟨w3.heap.size, 0, none⟩ 1 1 [.int .i64 y0, .int .i64 y1, .string y2, .int .i64 y3, .slice YA ym yc, .int .i64 x0, .int .i64 x1, .string x2, .int .i64 x3, .slice XA xm xc, .slice XB xn xd, .slice XC xo xe, .slice XD xp xf] rfl rfl (World.news_of_block (cs := #[.int .i64 y0, .int .i64 y1, .string y2, .int .i64 y3, .slice YA ym yc, .int .i64 x0, .int .i64 x1, .string x2, .int .i64 x3, .slice XA xm xc, .slice XB xn xd, .slice XC xo xe, .slice XD xp xf]) (t := 135) (fr := (0, 0)) (heap_alloc_new w3 _)) (by simp [Value.oneCell']) (by decide) (by unfold maxLen; omega) (by omega) (by simp; have := HBW.out.size; have := HSB.out; omega) (w3.heap.size + 1) (by simp) ?_
                      intro g4 cap4 w4 hown4 hgrow4 hat4 hglt4
                      have HOW := Lib.hid hown4; have HGR := Lib.hid hgrow4; have HAT := Lib.hid hat4; clear hown4 hgrow4 hat4 hglt4
                      have HK4 : Hid (Blk w4 g3 93 #[.int .i64 kk, .int .i64 aa, .string ss, .int .i64 nn, .slice A1 n1 c1, .slice Ap pats.length cp, .slice AX q cX, .slice Ad decls.length cd]) := Lib.hid ((HGR.out.block g3 (by have := HGL.out; have := HBW.out.size; simp; omega) (by intro e; have := (ownB_lt HRW.out.own e.symm).1; have := HGB.out; omega)).trans (bk_alloc (bk_below HKB.out HBW.out) _))
                      have hc4 : w4.cell? ⟨g3, 6, none⟩ = some (.slice AX q cX) := (cell_of_row _ _ 6 _ _ _ HK4.out).trans rfl
                      have hf4 : w4.frozen? ⟨g3, 6, none⟩ = false := frozen_of_row _ _ 6 _ _ HK4.out
                      refine hK.out _ _ ?_ (fun hHeld => ?_)
                      · exact (((bl_al HBW.out _).mono HSM.out)).grown HGR.out (by simp; have := HBW.out.size; have := HSM.out; omega) (fun k hk => by have := (ownB_lt HRW.out.own hk).1; have := HSG.out; have := HGB.out; omega)
                      (try simp only [Act.put, List.getElem_toArray, List.getElem_cons_zero, List.getElem_cons_succ, List.setIfInBounds_toArray, List.set_cons_zero, List.set_cons_succ])
                      refine wpAnyH_take (i := 19) (v := ?_) rfl (by kernel_rfl) (by kernel_rfl) (by kernel_rfl) (fun _ _ _ h => h) (Or.inl ⟨by rfl, ?_⟩) hHeld ?_
                      rotate_left
                      · (intro wS hSw; (try dsimp only at hSw); go_simp; try with_reducible rfl)
                      (try simp only [Act.put, List.getElem_toArray, List.getElem_cons_zero, List.getElem_cons_succ, List.setIfInBounds_toArray, List.set_cons_zero, List.set_cons_succ])
                      refine wpAnyH_ready (rs := [20]) (by kernel_rfl) (by simp) ?_
                      refine AllReadyH.cons rfl (fun K hK => ?_) AllReadyH.nil
                      · (try simp only [List.getElem_toArray, List.getElem_cons_zero, List.getElem_cons_succ, List.setIfInBounds_toArray, List.set_cons_zero, List.set_cons_succ])
                        try go_simp
                        refine hK.out _ _ ?_ (fun hHeld => ?_)
                        · exact ((((bl_al HBW.out _).mono HSM.out)).grown HGR.out (by simp; have := HBW.out.size; have := HSM.out; omega) (fun k hk => by have := (ownB_lt HRW.out.own hk).1; have := HSG.out; have := HGB.out; omega)).setCell HSG.out _
                        (try simp only [Act.put, List.getElem_toArray, List.getElem_cons_zero, List.getElem_cons_succ, List.setIfInBounds_toArray, List.set_cons_zero, List.set_cons_succ])
                        refine wpAnyH_done (by kernel_rfl) ?_ _
                        go_wp2_with fail
                        go_roundg (n2 - (q + 1))
                        case measure => omega
                        case rel =>
                          have hrp := RowX.push (GAl.mono alts) (w := wr) (w2 := w3.alloc (.cells #[.int .i64 y0, .int .i64 y1, .string y2, .int .i64 y3, .slice YA ym yc, .int .i64 x0, .int .i64 x1, .string x2, .int .i64 x3, .slice XA xm xc, .slice XB xn xd, .slice XC xo xe, .slice XD xp xf] 135)) HRW.out (bl_al HBW.out _) (fun g hg => Nat.le_trans HSB.out hg) ⟨hql, by rw [← HXQ.out]; exact .mk _ _ _ _ (HTw2.out.mono (memX_le_X fun g hg hx => ⟨hx, (Below.heap_alloc w3 _ g (Nat.lt_of_lt_of_le hg HUw3.out.1)).trans (HUw3.out.2.block g hg)⟩)) (HTw3.out.mono (memX_le_X fun g hg hx => ⟨Nat.le_trans HUw2.out.1 hx, Below.heap_alloc w3 _ g hg⟩))⟩ rfl HOW.out HGR.out (by have := HAT.out; simpa using this)
                          refine ⟨q + 1, by omega, rfl, by go_num, Lib.hid ⟨?_, some ⟨g4, 0, none⟩, cap4, _, ?_, RowX.same (GAl.mono alts) hrp (fun k hk hx => Below.heap_setCell w4 _ _ k ?_)⟩⟩
                          · exact But.cell (HBU.out.trans (But.of ((bl_al HBW.out _).mono HSB.out |>.grown HGR.out (by simp; have := HBW.out.size; have := HSB.out; omega) (fun k hk => (ownB_lt HRW.out.own hk).1)))) _ _
                          · exact (heap_setCell_same w4 g3 6 _ _ _ HK4.out).trans rfl
                          · have := HGB.out
                            rcases hx with hx | hx
                            · show k ≠ g3; omega
                            · have := (ownB_lt hrp.own hx.symm).1; show k ≠ g3; omega
            · (try simp only [List.getElem_toArray, List.getElem_cons_zero, List.getElem_cons_succ, List.setIfInBounds_toArray, List.set_cons_zero, List.set_cons_succ])
              try go_simp
              refine (HPC.out _ (Below.drew (Below.refl _ _))).mono ?_
              rintro e w2 ⟨cq, rfl, hb2, hT⟩
              obtain ⟨y0, y1, y2, y3, YA, ym, yc, rfl⟩ := hT.sh3
              have HTw2 := Lib.hid hT
              have HBW : Hid (Below wr.heap.size wr w2) := Lib.hid (bl_tr (Below.drew (Below.refl _ _)) hb2)
              have HUw2 : Hid ((wr.drew).heap.size ≤ w2.heap.size ∧ Below (wr.drew).heap.size (wr.drew) w2) := Lib.hid ⟨hb2.size, hb2⟩
              have hFw2 : w2.cell? ⟨g3, 6, none⟩ = some (.slice AX q cX) := (cell_of_row _ _ 6 _ _ _ (bk_below HKB.out HBW.out)).trans rfl
              clear hb2 hT
              try go_simp
              refine hK.out _ _ ?_ (fun hHeld => ?_)
              · exact HBW.out.mono HSM.out
              (try simp only [Act.put, List.getElem_toArray, List.getElem_cons_zero, List.getElem_cons_succ, List.setIfInBounds_toArray, List.set_cons_zero, List.set_cons_succ])
              refine wpAnyH_ready (rs := [1, 15]) (by kernel_rfl) (by simp) ?_
              refine AllReadyH.cons rfl (fun K hK => ?_) (AllReadyH.cons rfl (fun K hK => ?_) AllReadyH.nil)
              · (try simp only [List.getElem_toArray, List.getElem_cons_zero, List.getElem_cons_succ, List.setIfInBounds_toArray, List.set_cons_zero, List.set_cons_succ])
                try go_simp
                refine hK.out _ _ ?_ (fun hHeld => ?_)
                · exact HBW.out.mono HSM.out
                (try simp only [Act.put, List.getElem_toArray, List.getElem_cons_zero, List.getElem_cons_succ, List.setIfInBounds_toArray, List.set_cons_zero, List.set_cons_succ])
                refine wpAnyH_ready (rs := [15]) (by kernel_rfl) (by simp) ?_
                refine AllReadyH.cons rfl (fun K hK => ?_) AllReadyH.nil
                · (try simp only [List.getElem_toArray, List.getElem_cons_zero, List.getElem_cons_succ, List.setIfInBounds_toArray, List.set_cons_zero, List.set_cons_succ])
                  try go_simp
                  have HBV := HBW
                  clear HBW
                  refine (HEC.out _ (HBV.out)).mono ?_
                  rintro e w3 ⟨cq, rfl, hb2, hT⟩
                  obtain ⟨x0, x1, x2, x3, XA, xm, xc, XB, xn, xd, XC, xo, xe, XD, xp, xf, rfl⟩ := hT.sh3
                  have HTw3 := Lib.hid hT
                  have HBW : Hid (Below wr.heap.size wr w3) := Lib.hid (bl_tr (HBV.out) hb2)
                  have HUw3 : Hid ((w2).heap.size ≤ w3.heap.size ∧ Below (w2).heap.size (w2) w3) := Lib.hid ⟨hb2.size, hb2⟩
                  have hFw3 : w3.cell? ⟨g3, 6, none⟩ = some (.slice AX q cX) := (cell_of_row _ _ 6 _ _ _ (bk_below HKB.out HBW.out)).trans rfl
                  clear hb2 hT
                  try go_simp
                  refine hK.out _ _ ?_ (fun hHeld => ?_)
                  · exact HBW.out.mono HSM.out
                  (try simp only [Act.put, List.getElem_toArray, List.getElem_cons_zero, List.getElem_cons_succ, List.setIfInBounds_toArray, List.set_cons_zero, List.set_cons_succ])
                  refine wpAnyH_take (i := 16) (v := ?_) rfl (by kernel_rfl) (by kernel_rfl) (by kernel_rfl) (fun _ _ _ h => h) (Or.inl ⟨by rfl, ?_⟩) hHeld ?_
                  rotate_left
                  · (intro wS hSw; (try dsimp only at hSw); go_simp; try with_reducible rfl)
                  (try simp only [Act.put, List.getElem_toArray, List.getElem_cons_zero, List.getElem_cons_succ, List.setIfInBounds_toArray, List.set_cons_zero, List.set_cons_succ])
                  refine wpAnyH_ready (rs := [17]) (by kernel_rfl) (by simp) ?_
                  refine AllReadyH.cons rfl (fun K hK => ?_) AllReadyH.nil
                  · (try simp only [List.getElem_toArray, List.getElem_cons_zero, List.getElem_cons_succ, List.setIfInBounds_toArray, List.set_cons_zero, List.set_cons_succ])
                    try go_simp
                    refine hK.out _ _ ?_ (fun hHeld => ?_)
                    · exact ((bl_al HBW.out _).mono HSM.out)
                    (try simp only [Act.put, List.getElem_toArray, List.getElem_cons_zero, List.getElem_cons_succ, List.setIfInBounds_toArray, List.set_cons_zero, List.set_cons_succ])
                    refine wpAnyH_ready (rs := [18]) (by kernel_rfl) (by simp) ?_
                    refine AllReadyH.cons rfl (fun K hK => ?_) AllReadyH.nil
                    · skip
                      refine step_append_lies _ rfl (.tmp 47) (.tmp 63) 90 rfl wo.heap.size 135 gi0 (.agg #[.int .i64 0, .int .i64 0, .string { data := #[] }, .int .i64 0, .slice none 0 0, .int .i64 0, .int .i64 0, .string { data := #[] }, .int .i64 0, .slice none 0 0, .slice none 0 0, .slice none 0 0, .slice none 0 0]) 13 200 Try.underlying90 hgi hgz0 hgzs hgzb rfl (by decide) (.slice AX q cX) q (flat q CX) rfl (HRW.out.below (GAl.mono alts) (bl_al HBW.out _)).own ⟨w3.heap.size, 0, none⟩ 1 1 [.int .i64 y0, .int .i64 y1, .string y2, .int .i64 y3, .slice YA ym yc, .int .i64 x0, .int .i64 x1, .string x2, .int .i64 x3, .slice XA xm xc, .slice XB xn xd, .slice XC xo xe, .slice XD xp xf] rfl rfl (World.news_of_block (cs := #[.int .i64 y0, .int .i64 y1, .string y2, .int .i64 y3, .slice YA ym yc, .int .i64 x0, .int .i64 x1, .string x2, .int .i64 x3, .slice XA xm xc, .slice XB xn xd, .slice XC xo xe, .slice XD xp xf]) (t := 135) (fr := (0, 0)) (heap_alloc_new w3 _)) (by simp [Value.oneCell']) (by decide) (by unfold maxLen; omega) (by omega) (by simp; have := HBW.out.size; have := HSB.out; omega) (w3.heap.size + 1) (by simp) ?_
                      intro g4 cap4 w4 hown4 hgrow4 hat4 hglt4
                      have HOW := Lib.hid hown4; have HGR := Lib.hid hgrow4; have HAT := Lib.hid hat4; clear hown4 hgrow4 hat4 hglt4
                      have HK4 : Hid (Blk w4 g3 93 #[.int .i64 kk, .int .i64 aa, .string ss, .int .i64 nn, .slice A1 n1 c1, .slice Ap pats.length cp, .slice AX q cX, .slice Ad decls.length cd]) := Lib.hid ((HGR.out.block g3 (by have := HGL.out; have := HBW.out.size; simp; omega) (by intro e; have := (ownB_lt HRW.out.own e.symm).1; have := HGB.out; omega)).trans (bk_alloc (bk_below HKB.out HBW.out) _))
                      have hc4 : w4.cell? ⟨g3, 6, none⟩ = some (.slice AX q cX) := (cell_of_row _ _ 6 _ _ _ HK4.out).trans rfl
                      have hf4 : w4.frozen? ⟨g3, 6, none⟩ = false := frozen_of_row _ _ 6 _ _ HK4.out
                      refine hK.out _ _ ?_ (fun hHeld => ?_)
                      · exact (((bl_al HBW.out _).mono HSM.out)).grown HGR.out (by simp; have := HBW.out.size; have := HSM.out; omega) (fun k hk => by have := (ownB_lt HRW.out.own hk).1; have := HSG.out; have := HGB.out; omega)
                      (try simp only [Act.put, List.getElem_toArray, List.getElem_cons_zero, List.getElem_cons_succ, List.setIfInBounds_toArray, List.set_cons_zero, List.set_cons_succ])
                      refine wpAnyH_take (i := 19) (v := ?_) rfl (by kernel_rfl) (by kernel_rfl) (by kernel_rfl) (fun _ _ _ h => h) (Or.inl ⟨by rfl, ?_⟩) hHeld ?_
                      rotate_left
                      · (intro wS hSw; (try dsimp only at hSw); go_simp; try with_reducible rfl)
                      (try simp only [Act.put, List.getElem_toArray, List.getElem_cons_zero, List.getElem_cons_succ, List.setIfInBounds_toArray, List.set_cons_zero, List.set_cons_succ])
                      refine wpAnyH_ready (rs := [20]) (by kernel_rfl) (by simp) ?_
                      refine AllReadyH.cons rfl (fun K hK => ?_) AllReadyH.nil
                      · (try simp only [List.getElem_toArray, List.getElem_cons_zero, List.getElem_cons_succ, List.setIfInBounds_toArray, List.set_cons_zero, List.set_cons_succ])
                        try go_simp
                        refine hK.out _ _ ?_ (fun hHeld => ?_)
                        · exact ((((bl_al HBW.out _).mono HSM.out)).grown HGR.out (by simp; have := HBW.out.size; have := HSM.out; omega) (fun k hk => by have := (ownB_lt HRW.out.own hk).1; have := HSG.out; have := HGB.out; omega)).setCell HSG.out _
                        (try simp only [Act.put, List.getElem_toArray, List.getElem_cons_zero, List.getElem_cons_succ, List.setIfInBounds_toArray, List.set_cons_zero, List.set_cons_succ])
                        refine wpAnyH_done (by kernel_rfl) ?_ _
                        go_wp2_with fail
                        go_roundg (n2 - (q + 1))
                        case measure => omega
                        case rel =>
                          have hrp := RowX.push (GAl.mono alts) (w := wr) (w2 := w3.alloc (.cells #[.int .i64 y0, .int .i64 y1, .string y2, .int .i64 y3, .slice YA ym yc, .int .i64 x0, .int .i64 x1, .string x2, .int .i64 x3, .slice XA xm xc, .slice XB xn xd, .slice XC xo xe, .slice XD xp xf] 135)) HRW.out (bl_al HBW.out _) (fun g hg => Nat.le_trans HSB.out hg) ⟨hql, by rw [← HXQ.out]; exact .mk _ _ _ _ (HTw2.out.mono (memX_le_X fun g hg hx => ⟨hx, (Below.heap_alloc w3 _ g (Nat.lt_of_lt_of_le hg HUw3.out.1)).trans (HUw3.out.2.block g hg)⟩)) (HTw3.out.mono (memX_le_X fun g hg hx => ⟨Nat.le_trans HUw2.out.1 hx, Below.heap_alloc w3 _ g hg⟩))⟩ rfl HOW.out HGR.out (by have := HAT.out; simpa using this)
                          refine ⟨q + 1, by omega, rfl, by go_num, Lib.hid ⟨?_, some ⟨g4, 0, none⟩, cap4, _, ?_, RowX.same (GAl.mono alts) hrp (fun k hk hx => Below.heap_setCell w4 _ _ k ?_)⟩⟩
                          · exact But.cell (HBU.out.trans (But.of ((bl_al HBW.out _).mono HSB.out |>.grown HGR.out (by simp; have := HBW.out.size; have := HSB.out; omega) (fun k hk => (ownB_lt HRW.out.own hk).1)))) _ _
                          · exact (heap_setCell_same w4 g3 6 _ _ _ HK4.out).trans rfl
                          · have := HGB.out
                            rcases hx with hx | hx
                            · show k ≠ g3; omega
                            · have := (ownB_lt hrp.own hx.symm).1; show k ≠ g3; omega
              · (try simp only [List.getElem_toArray, List.getElem_cons_zero, List.getElem_cons_succ, List.setIfInBounds_toArray, List.set_cons_zero, List.set_cons_succ])
                try go_simp
                have HBV := HBW
                clear HBW
                refine (HEC.out _ (HBV.out)).mono ?_
                rintro e w3 ⟨cq, rfl, hb2, hT⟩
                obtain ⟨x0, x1, x2, x3, XA, xm, xc, XB, xn, xd, XC, xo, xe, XD, xp, xf, rfl⟩ := hT.sh3
                have HTw3 := Lib.hid hT
                have HBW : Hid (Below wr.heap.size wr w3) := Lib.hid (bl_tr (HBV.out) hb2)
                have HUw3 : Hid ((w2).heap.size ≤ w3.heap.size ∧ Below (w2).heap.size (w2) w3) := Lib.hid ⟨hb2.size, hb2⟩
                have hFw3 : w3.cell? ⟨g3, 6, none⟩ = some (.slice AX q cX) := (cell_of_row _ _ 6 _ _ _ (bk_below HKB.out HBW.out)).trans rfl
                clear hb2 hT
                try go_simp
                refine hK.out _ _ ?_ (fun hHeld => ?_)
                · exact HBW.out.mono HSM.out
                (try simp only [Act.put, List.getElem_toArray, List.getElem_cons_zero, List.getElem_cons_succ, List.setIfInBounds_toArray, List.set_cons_zero, List.set_cons_succ])
                refine wpAnyH_take (i := 16) (v := ?_) rfl (by kernel_rfl) (by kernel_rfl) (by kernel_rfl) (fun _ _ _ h => h) (Or.inl ⟨by rfl, ?_⟩) hHeld ?_
                rotate_left
                · (intro wS hSw; (try dsimp only at hSw); go_simp; try with_reducible rfl)
                (try simp only [Act.put, List.getElem_toArray, List.getElem_cons_zero, List.getElem_cons_succ, List.setIfInBounds_toArray, List.set_cons_zero, List.set_cons_succ])
                refine wpAnyH_ready (rs := [1, 17]) (by kernel_rfl) (by simp) ?_
                refine AllReadyH.cons rfl (fun K hK => ?_) (AllReadyH.cons rfl (fun K hK => ?_) AllReadyH.nil)
                · (try simp only [List.getElem_toArray, List.getElem_cons_zero, List.getElem_cons_succ, List.setIfInBounds_toArray, List.set_cons_zero, List.set_cons_succ])
                  try go_simp
                  refine hK.out _ _ ?_ (fun hHeld => ?_)
                  · exact HBW.out.mono HSM.out
                  (try simp only [Act.put, List.getElem_toArray, List.getElem_cons_zero, List.getElem_cons_succ, List.setIfInBounds_toArray, List.set_cons_zero, List.set_cons_succ])
                  refine wpAnyH_ready (rs := [17]) (by kernel_rfl) (by simp) ?_
                  refine AllReadyH.cons rfl (fun K hK => ?_) AllReadyH.nil
                  · (try simp only [List.getElem_toArray, List.getElem_cons_zero, List.getElem_cons_succ, List.setIfInBounds_toArray, List.set_cons_zero, List.set_cons_succ])
                    try go_simp
                    refine hK.out _ _ ?_ (fun hHeld => ?_)
                    · exact ((bl_al HBW.out _).mono HSM.out)
                    (try simp only [Act.put, List.getElem_toArray, List.getElem_cons_zero, List.getElem_cons_succ, List.setIfInBounds_toArray, List.set_cons_zero, List.set_cons_succ])
                    refine wpAnyH_ready (rs := [18]) (by kernel_rfl) (by simp) ?_
                    refine AllReadyH.cons rfl (fun K hK => ?_) AllReadyH.nil
                    · skip
                      refine step_append_lies _ rfl (.tmp 47) (.tmp 63) 90 rfl wo.heap.size 135 gi0 (.agg #[.int .i64 0, .int .i64 0, .string { data := #[] }, .int .i64 0, .slice none 0 0, .int .i64 0, .int .i64 0, .string { data := #[] }, .int .i64 0, .slice none 0 0, .slice none 0 0, .slice none 0 0, .slice none 0 0]) 13 200 Try.underlying90 hgi hgz0 hgzs hgzb rfl (by decide) (.slice AX q cX) q (flat q CX) rfl (HRW.out.below (GAl.mono alts) (bl_al HBW.out _)).own ⟨w3.heap.size, 0, none⟩ 1 1 [.int .i64 y0, .int .i64 y1, .string y2, .int .i64 y3, .slice YA ym yc, .int .i64 x0, .int .i64 x1, .string x2, .int .i64 x3, .slice XA xm xc, .slice XB xn xd, .slice XC xo xe, .slice XD xp xf] rfl rfl (World.news_of_block (cs := #[.int .i64 y0, .int .i64 y1, .string y2, .int .i64 y3, .slice YA ym yc, .int .i64 x0, .int .i64 x1, .string x2, .int .i64 x3, .slice XA xm xc, .slice XB xn xd, .slice XC xo xe, .slice XD xp xf]) (t := 135) (fr := (0, 0)) (heap_alloc_new w3 _)) (by simp [Value.oneCell']) (by decide) (by unfold maxLen; omega) (by omega) (by simp; have := HBW.out.size; have := HSB.out; omega) (w3.heap.size + 1) (by simp) ?_
                      intro g4 cap4 w4 hown4 hgrow4 hat4 hglt4
                      have HOW := Lib.hid hown4; have HGR := Lib.hid hgrow4; have HAT := Lib.hid hat4; clear hown4 hgrow4 hat4 hglt4
                      have HK4 : Hid (Blk w4 g3 93 #[.int .i64 kk, .int .i64 aa, .string ss, .int .i64 nn, .slice A1 n1 c1, .slice Ap pats.length cp, .slice AX q cX, .slice Ad decls.length cd]) := Lib.hid ((HGR.out.block g3 (by have := HGL.out; have := HBW.out.size; simp; omega) (by intro e; have := (ownB_lt HRW.out.own e.symm).1; have := HGB.out; omega)).trans (bk_alloc (bk_below HKB.out HBW.out) _))
                      have hc4 : w4.cell? ⟨g3, 6, none⟩ = some (.slice AX q cX) := (cell_of_row _ _ 6 _ _ _ HK4.out).trans rfl
                      have hf4 : w4.frozen? ⟨g3, 6, none⟩ = false := frozen_of_row _ _ 6 _ _ HK4.out
                      refine hK.out _ _ ?_ (fun hHeld => ?_)
                      · exact (((bl_al HBW.out _).mono HSM.out)).grown HGR.out (by simp; have := HBW.out.size; have := HSM.out; omega) (fun k hk => by have := (ownB_lt HRW.out.own hk).1; have := HSG.out; have := HGB.out; omega)
                      (try simp only [Act.put, List.getElem_toArray, List.getElem_cons_zero, List.getElem_cons_succ, List.setIfInBounds_toArray, List.set_cons_zero, List.set_cons_succ])
                      refine wpAnyH_take (i := 19) (v := ?_) rfl (by kernel_rfl) (by kernel_rfl) (by kernel_rfl) (fun _ _ _ h => h) (Or.inl ⟨by rfl, ?_⟩) hHeld ?_
                      rotate_left
                      · (intro wS hSw; (try dsimp only at hSw); go_simp; try with_reducible rfl)
                      (try simp only [Act.put, List.getElem_toArray, List.getElem_cons_zero, List.getElem_cons_succ, List.setIfInBounds_toArray, List.set_cons_zero, List.set_cons_succ])
                      refine wpAnyH_ready (rs := [20]) (by kernel_rfl) (by simp) ?_
                      refine AllReadyH.cons rfl (fun K hK => ?_) AllReadyH.nil
                      · (try simp only [List.getElem_toArray, List.getElem_cons_zero, List.getElem_cons_succ, List.setIfInBounds_toArray, List.set_cons_zero, List.set_cons_succ])
                        try go_simp
                        refine hK.out _ _ ?_ (fun hHeld => ?_)
                        · exact ((((bl_al HBW.out _).mono HSM.out)).grown HGR.out (by simp; have := HBW.out.size; have := HSM.out; omega) (fun k hk => by have := (ownB_lt HRW.out.own hk).1; have := HSG.out; have := HGB.out; omega)).setCell HSG.out _
                        (try simp only [Act.put, List.getElem_toArray, List.getElem_cons_zero, List.getElem_cons_succ, List.setIfInBounds_toArray, List.set_cons_zero, List.set_cons_succ])
                        refine wpAnyH_done (by kernel_rfl) ?_ _
                        go_wp2_with fail
                        go_roundg (n2 - (q + 1))
                        case measure => omega
                        case rel =>
                          have hrp := RowX.push (GAl.mono alts) (w := wr) (w2 := w3.alloc (.cells #[.int .i64 y0, .int .i64 y1, .string y2, .int .i64 y3, .slice YA ym yc, .int .i64 x0, .int .i64 x1, .string x2, .int .i64 x3, .slice XA xm xc, .slice XB xn xd, .slice XC xo xe, .slice XD xp xf] 135)) HRW.out (bl_al HBW.out _) (fun g hg => Nat.le_trans HSB.out hg) ⟨hql, by rw [← HXQ.out]; exact .mk _ _ _ _ (HTw2.out.mono (memX_le_X fun g hg hx => ⟨hx, (Below.heap_alloc w3 _ g (Nat.lt_of_lt_of_le hg HUw3.out.1)).trans (HUw3.out.2.block g hg)⟩)) (HTw3.out.mono (memX_le_X fun g hg hx => ⟨Nat.le_trans HUw2.out.1 hx, Below.heap_alloc w3 _ g hg⟩))⟩ rfl HOW.out HGR.out (by have := HAT.out; simpa using this)
                          refine ⟨q + 1, by omega, rfl, by go_num, Lib.hid ⟨?_, some ⟨g4, 0, none⟩, cap4, _, ?_, RowX.same (GAl.mono alts) hrp (fun k hk hx => Below.heap_setCell w4 _ _ k ?_)⟩⟩
                          · exact But.cell (HBU.out.trans (But.of ((bl_al HBW.out _).mono HSB.out |>.grown HGR.out (by simp; have := HBW.out.size; have := HSB.out; omega) (fun k hk => (ownB_lt HRW.out.own hk).1)))) _ _
                          · exact (heap_setCell_same w4 g3 6 _ _ _ HK4.out).trans rfl
                          · have := HGB.out
                            rcases hx with hx | hx
                            · show k ≠ g3; omega
                            · have := (ownB_lt hrp.own hx.symm).1; show k ≠ g3; omega
                · (try simp only [List.getElem_toArray, List.getElem_cons_zero, List.getElem_cons_succ, List.setIfInBounds_toArray, List.set_cons_zero, List.set_cons_succ])
                  try go_simp
                  have hF5 : (w3.alloc (.cells #[.int .i64 y0, .int .i64 y1, .string y2, .int .i64 y3, .slice YA ym yc, .int .i64 x0, .int .i64 x1, .string x2, .int .i64 x3, .slice XA xm xc, .slice XB xn xd, .slice XC xo xe, .slice XD xp xf] 135)).cell? ⟨g3, 6, none⟩ = some (.slice AX q cX) := (cell_of_row _ _ 6 _ _ _ (bk_alloc (bk_below HKB.out HBW.out) _)).trans rfl
                  try go_simp
                  refine hK.out _ _ ?_ (fun hHeld => ?_)
                  · exact ((bl_al HBW.out _).mono HSM.out)
                  (try simp only [Act.put, List.getElem_toArray, List.getElem_cons_zero, List.getElem_cons_succ, List.setIfInBounds_toArray, List.set_cons_zero, List.set_cons_succ])
                  refine wpAnyH_ready (rs := [1]) (by kernel_rfl) (by simp) ?_
                  refine AllReadyH.cons rfl (fun K hK => ?_) AllReadyH.nil
                  · (try simp only [List.getElem_toArray, List.getElem_cons_zero, List.getElem_cons_succ, List.setIfInBounds_toArray, List.set_cons_zero, List.set_cons_succ])
                    try go_simp
                    refine hK.out _ _ ?_ (fun hHeld => ?_)
                    · exact ((bl_al HBW.out _).mono HSM.out)
                    (try simp only [Act.put, List.getElem_toArray, List.getElem_cons_zero, List.getElem_cons_succ, List.setIfInBounds_toArray, List.set_cons_zero, List.set_cons_succ])
                    refine wpAnyH_ready (rs := [18]) (by kernel_rfl) (by simp) ?_
                    refine AllReadyH.cons rfl (fun K hK => ?_) AllReadyH.nil
                    · skip
                      refine step_append_lies _ rfl (.tmp 47) (.tmp 63) 90 rfl wo.heap.size 135 gi0 (.agg #[.int .i64 0, .int .i64 0, .string { data := #[] }, .int .i64 0, .slice none 0 0, .int .i64 0, .int .i64 0, .string { data := #[] }, .int .i64 0, .slice none 0 0, .slice none 0 0, .slice none 0 0, .slice none 0 0]) 13 200 Try.underlying90 hgi hgz0 hgzs hgzb rfl (by decide) (.slice AX q cX) q (flat q CX) rfl (HRW.out.below (GAl.mono alts) (bl_al HBW.out _)).own ⟨w3.heap.size, 0, none⟩ 1 1 [.int .i64 y0, .int .i64 y1, .string y2, .int .i64 y3, .slice YA ym yc, .int .i64 x0, .int .i64 x1, .string x2, .int .i64 x3, .slice XA xm xc, .slice XB xn xd, .slice XC xo xe, .slice XD xp xf] rfl rfl (World.news_of_block (cs := #[.int .i64 y0, .int .i64 y1, .string y2, .int .i64 y3, .slice YA ym yc, .int .i64 x0, .int .i64 x1, .string x2, .int .i64 x3, .slice XA xm xc, .slice XB xn xd, .slice XC xo xe, .slice XD xp xf]) (t := 135) (fr := (0, 0)) (heap_alloc_new w3 _)) (by simp [Value.oneCell']) (by decide) (by unfold maxLen; omega) (by omega) (by simp; have := HBW.out.size; have := HSB.out; omega) (w3.heap.size + 1) (by simp) ?_
                      intro g4 cap4 w4 hown4 hgrow4 hat4 hglt4
                      have HOW := Lib.hid hown4; have HGR := Lib.hid hgrow4; have HAT := Lib.hid hat4; clear hown4 hgrow4 hat4 hglt4
                      have HK4 : Hid (Blk w4 g3 93 #[.int .i64 kk, .int .i64 aa, .string ss, .int .i64 nn, .slice A1 n1 c1, .slice Ap pats.length cp, .slice AX q cX, .slice Ad decls.length cd]) := Lib.hid ((HGR.out.block g3 (by have := HGL.out; have := HBW.out.size; simp; omega) (by intro e; have := (ownB_lt HRW.out.own e.symm).1; have := HGB.out; omega)).trans (bk_alloc (bk_below HKB.out HBW.out) _))
                      have hc4 : w4.cell? ⟨g3, 6, none⟩ = some (.slice AX q cX) := (cell_of_row _ _ 6 _ _ _ HK4.out).trans rfl
                      have hf4 : w4.frozen? ⟨g3, 6, none⟩ = false := frozen_of_row _ _ 6 _ _ HK4.out
                      refine hK.out _ _ ?_ (fun hHeld => ?_)
                      · exact (((bl_al HBW.out _).mono HSM.out)).grown HGR.out (by simp; have := HBW.out.size; have := HSM.out; omega) (fun k hk => by have := (ownB_lt HRW.out.own hk).1; have := HSG.out; have := HGB.out; omega)
                      (try simp only [Act.put, List.getElem_toArray, List.getElem_cons_zero, List.getElem_cons_succ, List.setIfInBounds_toArray, List.set_cons_zero, List.set_cons_succ])
                      refine wpAnyH_take (i := 19) (v := ?_) rfl (by kernel_rfl) (by kernel_rfl) (by kernel_rfl) (fun _ _ _ h => h) (Or.inl ⟨by rfl, ?_⟩) hHeld ?_
                      rotate_left
                      · (intro wS hSw; (try dsimp only at hSw); go_simp; try with_reducible rfl)
                      (try simp only [Act.put, List.getElem_toArray, List.getElem_cons_zero, List.getElem_cons_succ, List.setIfInBounds_toArray, List.set_cons_zero, List.set_cons_succ])
                      refine wpAnyH_ready (rs := [20]) (by kernel_rfl) (by simp) ?_
                      refine AllReadyH.cons rfl (fun K hK => ?_) AllReadyH.nil
                      · (try simp only [List.getElem_toArray, List.getElem_cons_zero, List.getElem_cons_succ, List.setIfInBounds_toArray, List.set_cons_zero, List.set_cons_succ])
                        try go_simp
                        refine hK.out _ _ ?_ (fun hHeld => ?_)
                        · exact ((((bl_al HBW.out _).mono HSM.out)).grown HGR.out (by simp; have := HBW.out.size; have := HSM.out; omega) (fun k hk => by have := (ownB_lt HRW.out.own hk).1; have := HSG.out; have := HGB.out; omega)).setCell HSG.out _
                        (try simp only [Act.put, List.getElem_toArray, List.getElem_cons_zero, List.getElem_cons_succ, List.setIfInBounds_toArray, List.set_cons_zero, List.set_cons_succ])
                        refine wpAnyH_done (by kernel_rfl) ?_ _
                        go_wp2_with fail
                        go_roundg (n2 - (q + 1))
                        case measure => omega
                        case rel =>
                          have hrp := RowX.push (GAl.mono alts) (w := wr) (w2 := w3.alloc (.cells #[.int .i64 y0, .int .i64 y1, .string y2, .int .i64 y3, .slice YA ym yc, .int .i64 x0, .int .i64 x1, .string x2, .int .i64 x3, .slice XA xm xc, .slice XB xn xd, .slice XC xo xe, .slice XD xp xf] 135)) HRW.out (bl_al HBW.out _) (fun g hg => Nat.le_trans HSB.out hg) ⟨hql, by rw [← HXQ.out]; exact .mk _ _ _ _ (HTw2.out.mono (memX_le_X fun g hg hx => ⟨hx, (Below.heap_alloc w3 _ g (Nat.lt_of_lt_of_le hg HUw3.out.1)).trans (HUw3.out.2.block g hg)⟩)) (HTw3.out.mono (memX_le_X fun g hg hx => ⟨Nat.le_trans HUw2.out.1 hx, Below.heap_alloc w3 _ g hg⟩))⟩ rfl HOW.out HGR.out (by have := HAT.out; simpa using this)
                          refine ⟨q + 1, by omega, rfl, by go_num, Lib.hid ⟨?_, some ⟨g4, 0, none⟩, cap4, _, ?_, RowX.same (GAl.mono alts) hrp (fun k hk hx => Below.heap_setCell w4 _ _ k ?_)⟩⟩
                          · exact But.cell (HBU.out.trans (But.of ((bl_al HBW.out _).mono HSB.out |>.grown HGR.out (by simp; have := HBW.out.size; have := HSB.out; omega) (fun k hk => (ownB_lt HRW.out.own hk).1)))) _ _
                          · exact (heap_setCell_same w4 g3 6 _ _ _ HK4.out).trans rfl
                          · have := HGB.out
                            rcases hx with hx | hx
                            · show k ≠ g3; omega
                            · have := (ownB_lt hrp.own hx.symm).1; show k ≠ g3; omega
          · obtain rfl : n2 = q := by omega
            have RR := Lib.hid (show wr.rangeAt g3 0 [.int .i64 kk, .int .i64 aa, .string ss, .int .i64 nn, .slice A1 n1 c1, .slice Ap pats.length cp, .slice AX n2 cX, .slice Ad decls.length cd] from fun j v hv => by rw [Nat.zero_add, cell_of_row wr _ _ _ _ _ HKB.out, List.getElem?_toArray]; exact hv)
            have IT := Lib.hid (show (Try.prog.info? 93).map (·.size) = some ([.int .i64 kk, .int .i64 aa, .string ss, .int .i64 nn, .slice A1 n1 c1, .slice Ap pats.length cp, .slice AX n2 cX, .slice Ad decls.length cd] : List Value).length from Try.irEE)
            go_wp2_with (first | ((with_reducible refine at_ld 66 ?_); refine wpList_load_mid rfl 93 (.tmp 3) rfl g3 0 rfl [.int .i64 kk, .int .i64 aa, .string ss, .int .i64 nn, .slice A1 n1 c1, .slice Ap pats.length cp, .slice AX n2 cX, .slice Ad decls.length cd] _ RR.out Try.underlying93 rfl IT.out ?_) | ((with_reducible refine at_st 2 66 ?_); refine wpList_store_row rfl 93 (.tmp 2) (.tmp 66) rfl (w.heap.size + 1) rfl #[.int .i64 kk, .int .i64 aa, .string ss, .int .i64 nn, .slice A1 n1 c1, .slice Ap pats.length cp, .slice AX n2 cX, .slice Ad decls.length cd] rfl _ HRS.out Try.irEE rfl (by simp [Value.oneCell']) ?_))
            have hw3 : Blk (wr.setRow (w.heap.size + 1) #[.int .i64 kk, .int .i64 aa, .string ss, .int .i64 nn, .slice A1 n1 c1, .slice Ap pats.length cp, .slice AX n2 cX, .slice Ad decls.length cd]) (w.heap.size + 1) 93 #[.int .i64 kk, .int .i64 aa, .string ss, .int .i64 nn, .slice A1 n1 c1, .slice Ap pats.length cp, .slice AX n2 cX, .slice Ad decls.length cd] := setRow_heap _ _ _ _ _ _ HRS.out
            have hbw := below_setRow HBR.out (Nat.le_succ w.heap.size) #[.int .i64 kk, .int .i64 aa, .string ss, .int .i64 nn, .slice A1 n1 c1, .slice Ap pats.length cp, .slice AX n2 cX, .slice Ad decls.length cd]
            have hfar := HFAR.out
            have hlw : w.heap.size + 2 < wc.heap.size + 1 := by have := HG31.out; omega
            have hwo := HBU1.out.size
            have hwr := HBU.out.size
            have hex : ExsV (memX (wr.setRow (w.heap.size + 1) #[.int .i64 kk, .int .i64 aa, .string ss, .int .i64 nn, .slice A1 n1 c1, .slice Ap pats.length cp, .slice AX n2 cX, .slice Ad decls.length cd]) (w.heap.size ≤ ·)) args (.slice A1 n1 c1) := by
              have h := HRW1.out
              rw [show n1 = args.length from HN.out] at h
              have h1 := h.exs (Y := (wc.heap.size ≤ ·)) (fun _ h => h) (fun _ h _ => h)
              rw [show n1 = args.length from HN.out]
              exact h1.mono (memX_le_X fun g hg hx => ⟨by omega, (setRow_other _ _ _ _ (by omega)).trans (HBU.out.block g hg (by have := HG31.out; omega))⟩)
            have hal : AlsV (memX (wr.setRow (w.heap.size + 1) #[.int .i64 kk, .int .i64 aa, .string ss, .int .i64 nn, .slice A1 n1 c1, .slice Ap pats.length cp, .slice AX n2 cX, .slice Ad decls.length cd]) (w.heap.size ≤ ·)) alts (.slice AX n2 cX) := by
              have h := HRW.out
              rw [show n2 = alts.length from HN2.out] at h
              have h1 := h.als (Y := (wo.heap.size ≤ ·)) (fun _ h => h) (fun _ h _ => h)
              rw [show n2 = alts.length from HN2.out]
              exact h1.mono (memX_le_X fun g hg hx => ⟨by omega, setRow_other _ _ _ _ (by omega)⟩)
            have hpt := HX.out.pts.mono' (memX_le_X (w := wc) (w' := wr.setRow (w.heap.size + 1) #[.int .i64 kk, .int .i64 aa, .string ss, .int .i64 nn, .slice A1 n1 c1, .slice Ap pats.length cp, .slice AX n2 cX, .slice Ad decls.length cd]) (Y := (w.heap.size ≤ ·)) (fun g hg hx => ⟨by omega, (setRow_other _ _ _ _ (by omega)).trans ((HBU.out.block g (by omega) hx.2).trans (HBU1.out.block g hg hx.2))⟩))
            have hde := HX.out.des.mono (memX_le_X (w := wc) (w' := wr.setRow (w.heap.size + 1) #[.int .i64 kk, .int .i64 aa, .string ss, .int .i64 nn, .slice A1 n1 c1, .slice Ap pats.length cp, .slice AX n2 cX, .slice Ad decls.length cd]) (Y := (w.heap.size ≤ ·)) (fun g hg hx => ⟨by omega, (setRow_other _ _ _ _ (by omega)).trans ((HBU.out.block g (by omega) hx.2).trans (HBU1.out.block g hg hx.2))⟩))
            go_wp2_with fail
            exact bodyPost_ret (v := .agg #[.int .i64 kk, .int .i64 aa, .string ss, .int .i64 nn, .slice A1 n1 c1, .slice Ap pats.length cp, .slice AX n2 cX, .slice Ad decls.length cd]) (results_cell_row (p := 2) (ty := 93) rfl _ _ (w.heap.size + 1) 93 #[.int .i64 kk, .int .i64 aa, .string ss, .int .i64 nn, .slice A1 n1 c1, .slice Ap pats.length cp, .slice AX n2 cX, .slice Ad decls.length cd] (0, 0) _ rfl hw3 Try.underlying93 rfl Try.irEE) rfl ⟨_, rfl, hbw, ExC.of hex hpt hal hde HS.out⟩
end Go.Proofs.Ytfeghobfkgimfaa
