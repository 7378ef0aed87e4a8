/- knows: the law's own test answers true. -/
import Derived.Test.YtfeghobfkgimfaaRigD
namespace Go.Proofs.Ytfeghobfkgimfaa
set_option linter.unusedSimpArgs false
set_option linter.unusedVariables false
open Go.RowKit Go.Shelf

def kF : Ex := .mk 1 0 ⟨#[102]⟩ 0 [] [] [] []
def kE : Ex := .mk 6 0 ⟨#[]⟩ 0 [kF, .mk 3 3 ⟨#[]⟩ 7 [] [] [] []] [] [] []
def kG : Ex := .mk 6 9 ⟨#[]⟩ 0 [kF, .mk 3 0 ⟨#[]⟩ 7 [] [] [] []] [] [] []
theorem nilE (m : Mem) : ExsV m [] (.slice none 0 0) := ⟨none, 0, fun _ => [], rfl, ⟨Nat.le_refl _, Nat.zero_le _⟩, fun h => absurd h (by simp), fun i h => absurd h (by simp)⟩
theorem nilP (m : Mem) : PtsV m [] (.slice none 0 0) := ⟨none, 0, fun _ => [], rfl, ⟨Nat.le_refl _, Nat.zero_le _⟩, fun h => absurd h (by simp), fun i h => absurd h (by simp)⟩
theorem nilA (m : Mem) : AlsV m [] (.slice none 0 0) := ⟨none, 0, fun _ => [], rfl, ⟨Nat.le_refl _, Nat.zero_le _⟩, fun h => absurd h (by simp), fun i h => absurd h (by simp)⟩
theorem nilD (m : Mem) : DesV m [] (.slice none 0 0) := ⟨none, 0, fun _ => [], rfl, ⟨Nat.le_refl _, Nat.zero_le _⟩, fun h => absurd h (by simp), fun i h => absurd h (by simp)⟩
theorem leafC (m : Mem) (k a : Int) (s : ByteArray) (n : Int) (hs : s.size ≤ maxLen) : ExC m (.mk k a s n [] [] [] []) [.int .i64 k, .int .i64 a, .string s, .int .i64 n, .slice none 0 0, .slice none 0 0, .slice none 0 0, .slice none 0 0] := ExC.of (nilE m) (nilP m) (nilA m) (nilD m) hs
theorem sz1 : (⟨#[102]⟩ : ByteArray).size ≤ maxLen := by unfold maxLen; decide
theorem sz0 : (⟨#[]⟩ : ByteArray).size ≤ maxLen := Nat.zero_le _
theorem twoV {w' : World} {g : Nat} {k a : Int} {s : ByteArray} {n : Int} (hs : s.size ≤ maxLen) (h : Blk w' g 93 #[.int .i64 1, .int .i64 0, .string { data := #[102] }, .int .i64 0, .slice none 0 0, .slice none 0 0, .slice none 0 0, .slice none 0 0, .int .i64 k, .int .i64 a, .string s, .int .i64 n, .slice none 0 0, .slice none 0 0, .slice none 0 0, .slice none 0 0]) :
    ExsV (mem w') [kF, .mk k a s n [] [] [] []] (.slice (some ⟨g, 0, none⟩) 2 2) := by
  refine ⟨_, 2, fun i => if i = 0 then [.int .i64 1, .int .i64 0, .string { data := #[102] }, .int .i64 0, .slice none 0 0, .slice none 0 0, .slice none 0 0, .slice none 0 0] else [.int .i64 k, .int .i64 a, .string s, .int .i64 n, .slice none 0 0, .slice none 0 0, .slice none 0 0, .slice none 0 0], rfl, ⟨Nat.le_refl _, by unfold maxLen; decide⟩, fun _ => ⟨g, 0, rfl, fun i hi j hj => ?_⟩, fun i hi => ?_⟩
  · show w'.cell? ⟨g, 0 + i * 8 + j, none⟩ = _
    rw [cell_of_row w' g _ _ _ _ h, Nat.zero_add]
    have hi' : i = 0 ∨ i = 1 := by simp at hi; omega
    rcases hi' with rfl | rfl
    · match j, hj with
      | 0, _ => rfl | 1, _ => rfl | 2, _ => rfl | 3, _ => rfl | 4, _ => rfl | 5, _ => rfl | 6, _ => rfl | 7, _ => rfl
    · match j, hj with
      | 0, _ => rfl | 1, _ => rfl | 2, _ => rfl | 3, _ => rfl | 4, _ => rfl | 5, _ => rfl | 6, _ => rfl | 7, _ => rfl
  · have hi' : i = 0 ∨ i = 1 := by simp at hi; omega
    rcases hi' with rfl | rfl
    · exact leafC _ _ _ _ _ sz1
    · exact leafC _ _ _ _ _ hs
theorem k_word : wordB ⟨#[102]⟩ = true := by kernel_rfl
theorem k_size : sizeEx kE = 3 := by rfl
theorem k_deep : deepEx kE = 2 := by rfl
theorem k_right : rEx kE 400 = true := by kernel_rfl
theorem k_same : sameEx kE kG = true := by kernel_rfl
theorem k_other : sameEx kE kF = false := by kernel_rfl
theorem k_cnt : cntEx kE ≤ 100000 := by simp [kE, kF, cntEx, cntExs, cntPts, cntAls, cntDes]

set_option maxRecDepth 100000 in
set_option maxHeartbeats 8000000 in
theorem knows_any (w : World) : Calls Try.prog 34 #[] w (RightV true w) := by
  have hW := bl_al (bl_al (bl_al (bl_al (bl1 w (.cells #[.int .i64 1, .int .i64 0, .string { data := #[102] }, .int .i64 0, .slice none 0 0, .slice none 0 0, .slice none 0 0, .slice none 0 0] 93)) (.cells #[.int .i64 1, .int .i64 0, .string { data := #[102] }, .int .i64 0, .slice none 0 0, .slice none 0 0, .slice none 0 0, .slice none 0 0, .int .i64 3, .int .i64 3, .string { data := #[] }, .int .i64 7, .slice none 0 0, .slice none 0 0, .slice none 0 0, .slice none 0 0] 93)) (.cells #[.int .i64 6, .int .i64 0, .string { data := #[] }, .int .i64 0, .slice (some ⟨w.heap.size + 1, 0, none⟩) 2 2, .slice none 0 0, .slice none 0 0, .slice none 0 0] 93)) (.cells #[.int .i64 1, .int .i64 0, .string { data := #[102] }, .int .i64 0, .slice none 0 0, .slice none 0 0, .slice none 0 0, .slice none 0 0, .int .i64 3, .int .i64 0, .string { data := #[] }, .int .i64 7, .slice none 0 0, .slice none 0 0, .slice none 0 0, .slice none 0 0] 93)) (.cells #[.int .i64 6, .int .i64 9, .string { data := #[] }, .int .i64 0, .slice (some ⟨w.heap.size + 1 + 1 + 1, 0, none⟩) 2 2, .slice none 0 0, .slice none 0 0, .slice none 0 0] 93)
  obtain ⟨W, eW⟩ : ∃ W, (((((w.alloc (.cells #[.int .i64 1, .int .i64 0, .string { data := #[102] }, .int .i64 0, .slice none 0 0, .slice none 0 0, .slice none 0 0, .slice none 0 0] 93)).alloc (.cells #[.int .i64 1, .int .i64 0, .string { data := #[102] }, .int .i64 0, .slice none 0 0, .slice none 0 0, .slice none 0 0, .slice none 0 0, .int .i64 3, .int .i64 3, .string { data := #[] }, .int .i64 7, .slice none 0 0, .slice none 0 0, .slice none 0 0, .slice none 0 0] 93)).alloc (.cells #[.int .i64 6, .int .i64 0, .string { data := #[] }, .int .i64 0, .slice (some ⟨w.heap.size + 1, 0, none⟩) 2 2, .slice none 0 0, .slice none 0 0, .slice none 0 0] 93)).alloc (.cells #[.int .i64 1, .int .i64 0, .string { data := #[102] }, .int .i64 0, .slice none 0 0, .slice none 0 0, .slice none 0 0, .slice none 0 0, .int .i64 3, .int .i64 0, .string { data := #[] }, .int .i64 7, .slice none 0 0, .slice none 0 0, .slice none 0 0, .slice none 0 0] 93)).alloc (.cells #[.int .i64 6, .int .i64 9, .string { data := #[] }, .int .i64 0, .slice (some ⟨w.heap.size + 1 + 1 + 1, 0, none⟩) 2 2, .slice none 0 0, .slice none 0 0, .slice none 0 0] 93)) = W := ⟨_, rfl⟩
  have hF : Blk W w.heap.size 93 #[.int .i64 1, .int .i64 0, .string { data := #[102] }, .int .i64 0, .slice none 0 0, .slice none 0 0, .slice none 0 0, .slice none 0 0] := by rw [← eW]; exact bk_alloc (bk_alloc (bk_alloc (bk_alloc (bk_new _ _ _ _ rfl) _) _) _) _
  have h1 : Blk W (w.heap.size + 1) 93 #[.int .i64 1, .int .i64 0, .string { data := #[102] }, .int .i64 0, .slice none 0 0, .slice none 0 0, .slice none 0 0, .slice none 0 0, .int .i64 3, .int .i64 3, .string { data := #[] }, .int .i64 7, .slice none 0 0, .slice none 0 0, .slice none 0 0, .slice none 0 0] := by rw [← eW]; exact bk_alloc (bk_alloc (bk_alloc (bk_new _ _ _ _ (by simp)) _) _) _
  have hE : Blk W (w.heap.size + 1 + 1) 93 #[.int .i64 6, .int .i64 0, .string { data := #[] }, .int .i64 0, .slice (some ⟨w.heap.size + 1, 0, none⟩) 2 2, .slice none 0 0, .slice none 0 0, .slice none 0 0] := by rw [← eW]; exact bk_alloc (bk_alloc (bk_new _ _ _ _ (by simp)) _) _
  have h3 : Blk W (w.heap.size + 1 + 1 + 1) 93 #[.int .i64 1, .int .i64 0, .string { data := #[102] }, .int .i64 0, .slice none 0 0, .slice none 0 0, .slice none 0 0, .slice none 0 0, .int .i64 3, .int .i64 0, .string { data := #[] }, .int .i64 7, .slice none 0 0, .slice none 0 0, .slice none 0 0, .slice none 0 0] := by rw [← eW]; exact bk_alloc (bk_new _ _ _ _ (by simp)) _
  have hG : Blk W (w.heap.size + 1 + 1 + 1 + 1) 93 #[.int .i64 6, .int .i64 9, .string { data := #[] }, .int .i64 0, .slice (some ⟨w.heap.size + 1 + 1 + 1, 0, none⟩) 2 2, .slice none 0 0, .slice none 0 0, .slice none 0 0] := by rw [← eW]; exact bk_new _ _ _ _ (by simp)
  rw [eW] at hW
  have HW := Lib.hid hW
  have HF : Hid (∀ w', Below W.heap.size W w' → Blk w' w.heap.size 93 #[.int .i64 1, .int .i64 0, .string { data := #[102] }, .int .i64 0, .slice none 0 0, .slice none 0 0, .slice none 0 0, .slice none 0 0]) := Lib.hid (fun w' hw' => bk_below hF hw')
  have HE : Hid (∀ w', Below W.heap.size W w' → Blk w' (w.heap.size + 1 + 1) 93 #[.int .i64 6, .int .i64 0, .string { data := #[] }, .int .i64 0, .slice (some ⟨w.heap.size + 1, 0, none⟩) 2 2, .slice none 0 0, .slice none 0 0, .slice none 0 0]) := Lib.hid (fun w' hw' => bk_below hE hw')
  have HG : Hid (∀ w', Below W.heap.size W w' → Blk w' (w.heap.size + 1 + 1 + 1 + 1) 93 #[.int .i64 6, .int .i64 9, .string { data := #[] }, .int .i64 0, .slice (some ⟨w.heap.size + 1 + 1 + 1, 0, none⟩) 2 2, .slice none 0 0, .slice none 0 0, .slice none 0 0]) := Lib.hid (fun w' hw' => bk_below hG hw')
  have cE : Hid (∀ w', Below W.heap.size W w' → ExC (mem w') kE [.int .i64 6, .int .i64 0, .string { data := #[] }, .int .i64 0, .slice (some ⟨w.heap.size + 1, 0, none⟩) 2 2, .slice none 0 0, .slice none 0 0, .slice none 0 0]) := Lib.hid (fun w' hw' => ExC.of (twoV sz0 (bk_below h1 hw')) (nilP _) (nilA _) (nilD _) sz0)
  have cG : Hid (∀ w', Below W.heap.size W w' → ExC (mem w') kG [.int .i64 6, .int .i64 9, .string { data := #[] }, .int .i64 0, .slice (some ⟨w.heap.size + 1 + 1 + 1, 0, none⟩) 2 2, .slice none 0 0, .slice none 0 0, .slice none 0 0]) := Lib.hid (fun w' hw' => ExC.of (twoV sz0 (bk_below h3 hw')) (nilP _) (nilA _) (nilD _) sz0)
  have cF : Hid (∀ w', ExC (mem w') kF [.int .i64 1, .int .i64 0, .string { data := #[102] }, .int .i64 0, .slice none 0 0, .slice none 0 0, .slice none 0 0, .slice none 0 0]) := Lib.hid (fun w' => leafC _ _ _ _ _ sz1)
  have HEW := Lib.hid eW
  clear hF h1 hE h3 hG hW eW
  go_enter Try.func34, Try.ntmps34
  go_wp2_with fail
  rw [HEW.out]
  have HB0 : Hid (Below W.heap.size W W) := Lib.hid (Below.refl _ _)
  refine ((size_any kE _ W k_cnt (cE.out W HB0.out))).mono ?_
  rintro e w1 ⟨rfl, hb1⟩
  have HB1 : Hid (Below W.heap.size W w1) := Lib.hid hb1
  clear hb1
  rw [k_size]
  have ew1_0 : w1.cell? ⟨w.heap.size + 1 + 1, 0, none⟩ = some (.int .i64 6) := (cell_of_row _ _ 0 _ _ _ (HE.out w1 HB1.out)).trans rfl
  have ew1_1 : w1.cell? ⟨w.heap.size + 1 + 1, 1, none⟩ = some (.int .i64 0) := (cell_of_row _ _ 1 _ _ _ (HE.out w1 HB1.out)).trans rfl
  have ew1_2 : w1.cell? ⟨w.heap.size + 1 + 1, 2, none⟩ = some (.string { data := #[] }) := (cell_of_row _ _ 2 _ _ _ (HE.out w1 HB1.out)).trans rfl
  have ew1_3 : w1.cell? ⟨w.heap.size + 1 + 1, 3, none⟩ = some (.int .i64 0) := (cell_of_row _ _ 3 _ _ _ (HE.out w1 HB1.out)).trans rfl
  have ew1_4 : w1.cell? ⟨w.heap.size + 1 + 1, 4, none⟩ = some (.slice (some ⟨w.heap.size + 1, 0, none⟩) 2 2) := (cell_of_row _ _ 4 _ _ _ (HE.out w1 HB1.out)).trans rfl
  have ew1_5 : w1.cell? ⟨w.heap.size + 1 + 1, 5, none⟩ = some (.slice none 0 0) := (cell_of_row _ _ 5 _ _ _ (HE.out w1 HB1.out)).trans rfl
  have ew1_6 : w1.cell? ⟨w.heap.size + 1 + 1, 6, none⟩ = some (.slice none 0 0) := (cell_of_row _ _ 6 _ _ _ (HE.out w1 HB1.out)).trans rfl
  have ew1_7 : w1.cell? ⟨w.heap.size + 1 + 1, 7, none⟩ = some (.slice none 0 0) := (cell_of_row _ _ 7 _ _ _ (HE.out w1 HB1.out)).trans rfl
  go_wp2_with fail
  refine ((deep_any kE _ w1 k_cnt (cE.out w1 HB1.out))).mono ?_
  rintro e w2 ⟨rfl, hb2⟩
  have HB2 : Hid (Below W.heap.size W w2) := Lib.hid (bl_tr HB1.out hb2)
  clear hb2
  rw [k_deep]
  have ew2_0 : w2.cell? ⟨w.heap.size + 1 + 1, 0, none⟩ = some (.int .i64 6) := (cell_of_row _ _ 0 _ _ _ (HE.out w2 HB2.out)).trans rfl
  have ew2_1 : w2.cell? ⟨w.heap.size + 1 + 1, 1, none⟩ = some (.int .i64 0) := (cell_of_row _ _ 1 _ _ _ (HE.out w2 HB2.out)).trans rfl
  have ew2_2 : w2.cell? ⟨w.heap.size + 1 + 1, 2, none⟩ = some (.string { data := #[] }) := (cell_of_row _ _ 2 _ _ _ (HE.out w2 HB2.out)).trans rfl
  have ew2_3 : w2.cell? ⟨w.heap.size + 1 + 1, 3, none⟩ = some (.int .i64 0) := (cell_of_row _ _ 3 _ _ _ (HE.out w2 HB2.out)).trans rfl
  have ew2_4 : w2.cell? ⟨w.heap.size + 1 + 1, 4, none⟩ = some (.slice (some ⟨w.heap.size + 1, 0, none⟩) 2 2) := (cell_of_row _ _ 4 _ _ _ (HE.out w2 HB2.out)).trans rfl
  have ew2_5 : w2.cell? ⟨w.heap.size + 1 + 1, 5, none⟩ = some (.slice none 0 0) := (cell_of_row _ _ 5 _ _ _ (HE.out w2 HB2.out)).trans rfl
  have ew2_6 : w2.cell? ⟨w.heap.size + 1 + 1, 6, none⟩ = some (.slice none 0 0) := (cell_of_row _ _ 6 _ _ _ (HE.out w2 HB2.out)).trans rfl
  have ew2_7 : w2.cell? ⟨w.heap.size + 1 + 1, 7, none⟩ = some (.slice none 0 0) := (cell_of_row _ _ 7 _ _ _ (HE.out w2 HB2.out)).trans rfl
  go_wp2_with fail
  refine ((RightExpr_any kE _ w2 k_cnt (cE.out w2 HB2.out))).mono ?_
  rintro e w3 ⟨rfl, hb3⟩
  have HB3 : Hid (Below W.heap.size W w3) := Lib.hid (bl_tr HB2.out hb3)
  clear hb3
  rw [k_right]
  have ew3_0 : w3.cell? ⟨w.heap.size + 1 + 1, 0, none⟩ = some (.int .i64 6) := (cell_of_row _ _ 0 _ _ _ (HE.out w3 HB3.out)).trans rfl
  have ew3_1 : w3.cell? ⟨w.heap.size + 1 + 1, 1, none⟩ = some (.int .i64 0) := (cell_of_row _ _ 1 _ _ _ (HE.out w3 HB3.out)).trans rfl
  have ew3_2 : w3.cell? ⟨w.heap.size + 1 + 1, 2, none⟩ = some (.string { data := #[] }) := (cell_of_row _ _ 2 _ _ _ (HE.out w3 HB3.out)).trans rfl
  have ew3_3 : w3.cell? ⟨w.heap.size + 1 + 1, 3, none⟩ = some (.int .i64 0) := (cell_of_row _ _ 3 _ _ _ (HE.out w3 HB3.out)).trans rfl
  have ew3_4 : w3.cell? ⟨w.heap.size + 1 + 1, 4, none⟩ = some (.slice (some ⟨w.heap.size + 1, 0, none⟩) 2 2) := (cell_of_row _ _ 4 _ _ _ (HE.out w3 HB3.out)).trans rfl
  have ew3_5 : w3.cell? ⟨w.heap.size + 1 + 1, 5, none⟩ = some (.slice none 0 0) := (cell_of_row _ _ 5 _ _ _ (HE.out w3 HB3.out)).trans rfl
  have ew3_6 : w3.cell? ⟨w.heap.size + 1 + 1, 6, none⟩ = some (.slice none 0 0) := (cell_of_row _ _ 6 _ _ _ (HE.out w3 HB3.out)).trans rfl
  have ew3_7 : w3.cell? ⟨w.heap.size + 1 + 1, 7, none⟩ = some (.slice none 0 0) := (cell_of_row _ _ 7 _ _ _ (HE.out w3 HB3.out)).trans rfl
  have gw3_0 : w3.cell? ⟨w.heap.size + 1 + 1 + 1 + 1, 0, none⟩ = some (.int .i64 6) := (cell_of_row _ _ 0 _ _ _ (HG.out w3 HB3.out)).trans rfl
  have gw3_1 : w3.cell? ⟨w.heap.size + 1 + 1 + 1 + 1, 1, none⟩ = some (.int .i64 9) := (cell_of_row _ _ 1 _ _ _ (HG.out w3 HB3.out)).trans rfl
  have gw3_2 : w3.cell? ⟨w.heap.size + 1 + 1 + 1 + 1, 2, none⟩ = some (.string { data := #[] }) := (cell_of_row _ _ 2 _ _ _ (HG.out w3 HB3.out)).trans rfl
  have gw3_3 : w3.cell? ⟨w.heap.size + 1 + 1 + 1 + 1, 3, none⟩ = some (.int .i64 0) := (cell_of_row _ _ 3 _ _ _ (HG.out w3 HB3.out)).trans rfl
  have gw3_4 : w3.cell? ⟨w.heap.size + 1 + 1 + 1 + 1, 4, none⟩ = some (.slice (some ⟨w.heap.size + 1 + 1 + 1, 0, none⟩) 2 2) := (cell_of_row _ _ 4 _ _ _ (HG.out w3 HB3.out)).trans rfl
  have gw3_5 : w3.cell? ⟨w.heap.size + 1 + 1 + 1 + 1, 5, none⟩ = some (.slice none 0 0) := (cell_of_row _ _ 5 _ _ _ (HG.out w3 HB3.out)).trans rfl
  have gw3_6 : w3.cell? ⟨w.heap.size + 1 + 1 + 1 + 1, 6, none⟩ = some (.slice none 0 0) := (cell_of_row _ _ 6 _ _ _ (HG.out w3 HB3.out)).trans rfl
  have gw3_7 : w3.cell? ⟨w.heap.size + 1 + 1 + 1 + 1, 7, none⟩ = some (.slice none 0 0) := (cell_of_row _ _ 7 _ _ _ (HG.out w3 HB3.out)).trans rfl
  go_wp2_with fail
  refine ((sameEx_any kE kG _ _ w3 (cE.out w3 HB3.out) (cG.out w3 HB3.out))).mono ?_
  rintro e w4 ⟨rfl, hb4⟩
  have HB4 : Hid (Below W.heap.size W w4) := Lib.hid (bl_tr HB3.out hb4)
  clear hb4
  rw [k_same]
  have ew4_0 : w4.cell? ⟨w.heap.size + 1 + 1, 0, none⟩ = some (.int .i64 6) := (cell_of_row _ _ 0 _ _ _ (HE.out w4 HB4.out)).trans rfl
  have ew4_1 : w4.cell? ⟨w.heap.size + 1 + 1, 1, none⟩ = some (.int .i64 0) := (cell_of_row _ _ 1 _ _ _ (HE.out w4 HB4.out)).trans rfl
  have ew4_2 : w4.cell? ⟨w.heap.size + 1 + 1, 2, none⟩ = some (.string { data := #[] }) := (cell_of_row _ _ 2 _ _ _ (HE.out w4 HB4.out)).trans rfl
  have ew4_3 : w4.cell? ⟨w.heap.size + 1 + 1, 3, none⟩ = some (.int .i64 0) := (cell_of_row _ _ 3 _ _ _ (HE.out w4 HB4.out)).trans rfl
  have ew4_4 : w4.cell? ⟨w.heap.size + 1 + 1, 4, none⟩ = some (.slice (some ⟨w.heap.size + 1, 0, none⟩) 2 2) := (cell_of_row _ _ 4 _ _ _ (HE.out w4 HB4.out)).trans rfl
  have ew4_5 : w4.cell? ⟨w.heap.size + 1 + 1, 5, none⟩ = some (.slice none 0 0) := (cell_of_row _ _ 5 _ _ _ (HE.out w4 HB4.out)).trans rfl
  have ew4_6 : w4.cell? ⟨w.heap.size + 1 + 1, 6, none⟩ = some (.slice none 0 0) := (cell_of_row _ _ 6 _ _ _ (HE.out w4 HB4.out)).trans rfl
  have ew4_7 : w4.cell? ⟨w.heap.size + 1 + 1, 7, none⟩ = some (.slice none 0 0) := (cell_of_row _ _ 7 _ _ _ (HE.out w4 HB4.out)).trans rfl
  have fw4_0 : w4.cell? ⟨w.heap.size, 0, none⟩ = some (.int .i64 1) := (cell_of_row _ _ 0 _ _ _ (HF.out w4 HB4.out)).trans rfl
  have fw4_1 : w4.cell? ⟨w.heap.size, 1, none⟩ = some (.int .i64 0) := (cell_of_row _ _ 1 _ _ _ (HF.out w4 HB4.out)).trans rfl
  have fw4_2 : w4.cell? ⟨w.heap.size, 2, none⟩ = some (.string { data := #[102] }) := (cell_of_row _ _ 2 _ _ _ (HF.out w4 HB4.out)).trans rfl
  have fw4_3 : w4.cell? ⟨w.heap.size, 3, none⟩ = some (.int .i64 0) := (cell_of_row _ _ 3 _ _ _ (HF.out w4 HB4.out)).trans rfl
  have fw4_4 : w4.cell? ⟨w.heap.size, 4, none⟩ = some (.slice none 0 0) := (cell_of_row _ _ 4 _ _ _ (HF.out w4 HB4.out)).trans rfl
  have fw4_5 : w4.cell? ⟨w.heap.size, 5, none⟩ = some (.slice none 0 0) := (cell_of_row _ _ 5 _ _ _ (HF.out w4 HB4.out)).trans rfl
  have fw4_6 : w4.cell? ⟨w.heap.size, 6, none⟩ = some (.slice none 0 0) := (cell_of_row _ _ 6 _ _ _ (HF.out w4 HB4.out)).trans rfl
  have fw4_7 : w4.cell? ⟨w.heap.size, 7, none⟩ = some (.slice none 0 0) := (cell_of_row _ _ 7 _ _ _ (HF.out w4 HB4.out)).trans rfl
  go_wp2_with fail
  refine ((sameEx_any kE kF _ _ w4 (cE.out w4 HB4.out) (cF.out w4))).mono ?_
  rintro e w5 ⟨rfl, hb5⟩
  have HB5 : Hid (Below W.heap.size W w5) := Lib.hid (bl_tr HB4.out hb5)
  clear hb5
  rw [k_other]
  go_wp2_with fail
  go_ret
  exact ⟨rfl, bl_tr HW.out HB5.out⟩
end Go.Proofs.Ytfeghobfkgimfaa
