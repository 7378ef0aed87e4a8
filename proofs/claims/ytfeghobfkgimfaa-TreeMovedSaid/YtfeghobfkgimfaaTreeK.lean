/- How many parts are left: expressions, what a case comes to. -/
import Derived.Test.YtfeghobfkgimfaaTreeJ
namespace Go.Proofs.Ytfeghobfkgimfaa
set_option linter.unusedSimpArgs false
set_option linter.unusedVariables false
open Go.RowKit Go.Shelf

theorem Try.irE : (Try.prog.info? 86).map (·.size) = some 8 := by kernel_rfl
theorem fewExs_neg (l : List Ex) (left : Int) (h : left < 0) : fewExs l left = left := by
  cases l with
  | nil => rw [fewExs]
  | cons x l => rw [fewExs, if_pos h]
theorem fewAls_neg (l : List Al) (left : Int) (h : left < 0) : fewAls l left = left := by
  cases l with
  | nil => rw [fewAls]
  | cons x l => cases x; rw [fewAls, if_pos h]
theorem fewDes_neg (l : List De) (left : Int) (h : left < 0) : fewDes l left = left := by
  cases l with
  | nil => rw [fewDes]
  | cons x l => cases x; rw [fewDes, if_pos h]
/-- A slice of one, out of a block that holds its cells. -/
theorem exs_one {W : World} {g : Nat} {t : TypeId} {b : Ex} {cs : List Value} (hb : W.heap[g]? = some (.cells cs.toArray t (0, 0))) (h : ExC (mem W) b cs) : ExsV (mem W) [b] (.slice (some ⟨g, 0, none⟩) 1 1) :=
  ⟨_, 1, fun _ => cs, rfl, ⟨Nat.le_refl _, by decide⟩, fun _ => ⟨g, 0, rfl, fun i hi j hj => by
    have : i = 0 := by simpa using hi
    subst this
    show W.cell? ⟨g, 0 + 0 * 8 + j, none⟩ = _
    rw [cell_of_row W g _ _ _ _ hb]; simp⟩, fun i hi => by
    have : i = 0 := by simpa using hi
    subst this
    exact h⟩
theorem pts_one {W : World} {g : Nat} {t : TypeId} {b : Pt} {cs : List Value} (hb : W.heap[g]? = some (.cells cs.toArray t (0, 0))) (h : PtC (mem W) b cs) : PtsV (mem W) [b] (.slice (some ⟨g, 0, none⟩) 1 1) :=
  ⟨_, 1, fun _ => cs, rfl, ⟨Nat.le_refl _, by decide⟩, fun _ => ⟨g, 0, rfl, fun i hi j hj => by
    have : i = 0 := by simpa using hi
    subst this
    show W.cell? ⟨g, 0 + 0 * 5 + j, none⟩ = _
    rw [cell_of_row W g _ _ _ _ hb]; simp⟩, fun i hi => by
    have : i = 0 := by simpa using hi
    subst this
    exact h⟩
theorem tys_one {W : World} {g : Nat} {t : TypeId} {b : Ty} {cs : List Value} (hb : W.heap[g]? = some (.cells cs.toArray t (0, 0))) (h : TyC (mem W) b cs) : TysV (mem W) [b] (.slice (some ⟨g, 0, none⟩) 1 1) :=
  ⟨_, 1, fun _ => cs, rfl, ⟨Nat.le_refl _, by decide⟩, fun _ => ⟨g, 0, rfl, fun i hi j hj => by
    have : i = 0 := by simpa using hi
    subst this
    show W.cell? ⟨g, 0 + 0 * 4 + j, none⟩ = _
    rw [cell_of_row W g _ _ _ _ hb]; simp⟩, fun i hi => by
    have : i = 0 := by simpa using hi
    subst this
    exact h⟩

set_option maxRecDepth 100000 in
set_option maxHeartbeats 2000000 in
theorem fewExs_of (l : List Ex) (v : Value) (left : Int) (w : World) (hleft : left ≤ 9223372036854775807) (hv : ExsV (mem w) l v)
    (ihE : ∀ l' v' left' W, SizeOf.sizeOf (l' : List Ex) < SizeOf.sizeOf l → left' ≤ 9223372036854775807 → ExsV (mem W) l' v' → Calls Try.prog 67 #[v', .int .i64 left'] W (NumV (fewExs l' left') W))
    (ihA : ∀ l' v' left' W, SizeOf.sizeOf (l' : List Al) < SizeOf.sizeOf l → left' ≤ 9223372036854775807 → AlsV (mem W) l' v' → Calls Try.prog 88 #[v', .int .i64 left'] W (NumV (fewAls l' left') W))
    (ihD : ∀ l' v' left' W, SizeOf.sizeOf (l' : List De) < SizeOf.sizeOf l → left' ≤ 9223372036854775807 → DesV (mem W) l' v' → Calls Try.prog 89 #[v', .int .i64 left'] W (NumV (fewDes l' left') W)) :
    Calls Try.prog 67 #[v, .int .i64 left] w (NumV (fewExs l left) w) := by
  obtain ⟨A, c, C, rfl, hc, hA, hC⟩ := hv
  have hn1 := le_of hc
  unfold maxLen at hn1
  have HA := Lib.hid hA; have HCC := Lib.hid hC; have HE := Lib.hid ihE; have HAA := Lib.hid ihA; have HDD := Lib.hid ihD
  have O1 : Hid (∀ i, i < l.length → (C i).length = 8) := Lib.hid (fun i hi => (hC i hi).len)
  clear hA hC ihE ihA ihD hc
  obtain ⟨n1, e1⟩ : ∃ x, x = l.length := ⟨_, rfl⟩
  rw [← e1] at HA O1 hn1 ⊢
  have HN := Lib.hid e1
  clear e1
  go_enter Try.func67, Try.ntmps67
  go_wp2_with fail
  go_loopg [1, 5] n1 (fun gk z i wr => ∃ (q : Nat) (z0 : Int), q ≤ n1 ∧ gk = n1 - q ∧ i = .int .i64 q ∧ z = .int .i64 z0 ∧ z0 ≤ left ∧ Hid (Below w.heap.size w wr) ∧ Hid (fewExs (l.drop q) z0 = fewExs l left))
  case atStart => exact ⟨0, left, Nat.zero_le _, rfl, rfl, rfl, Int.le_refl _, Lib.hid (Below.refl _ _), Lib.hid rfl⟩
  case round =>
    obtain ⟨q, z, hq, rfl, rfl, rfl, hz, HBR, HF⟩ := hrel
    by_cases hlt : q < n1
    · by_cases hneg : z < 0
      · have d0 : decide (0 ≤ z) = false := by simp; omega
        have hk1 : (q : Int) < (n1 : Int) := by omega
        go_wp2_with fail
        go_ret
        exact ⟨ret_i (by rw [← HF.out, fewExs_neg _ _ hneg]), HBR.out⟩
      · have hz0 : 0 ≤ z := by omega
        have d0 : decide (0 ≤ z) = true := by simp; omega
        obtain ⟨g, o, rfl, hc1⟩ := HA.out (by omega)
        have hql : q < l.length := by rw [← HN.out]; exact hlt
        have hcq := (HCC.out q hql).mono (mem_below HBR.out)
        have r1 := range_at HBR.out hc1 hlt (O1.out q hlt)
        have hdrop := List.drop_eq_getElem_cons hql
        have hmem := List.sizeOf_lt_of_mem (List.getElem_mem hql)
        obtain ⟨x, hx⟩ : ∃ x, x = l[q] := ⟨_, rfl⟩
        rw [← hx] at hcq hdrop hmem
        obtain ⟨k, a, s, m, args, pats, alts, decls⟩ := x
        have hone := hcq.ok
        obtain ⟨v1, v2, v3, v4, ec, h1, h2, h3, h4⟩ := hcq.inv
        have hsz := hcq.size
        unfold maxLen at hsz
        rw [ec] at r1 hone
        simp at hmem
        have hdiv : 0 ≤ (s.size : Int) / 100 := Int.ediv_nonneg (by omega) (by omega)
        have hdiv2 : (s.size : Int) / 100 ≤ 92233720368547758 := by omega
        have hstep : fewExs (l.drop q) z = fewExs (l.drop (q + 1)) (fewDes decls (fewAls alts (fewPts pats (fewExs args (z - 1 - (s.size : Int) / 100))))) := by rw [hdrop, fewExs, if_neg hneg, fewEx]
        have g1 := (fewExs_gone args (z - 1 - (s.size : Int) / 100)).1
        have c1' := fun (W : World) (hW : Below wr.heap.size wr W) => HE.out args v1 (z - 1 - (s.size : Int) / 100) W (by omega) (by omega) (h1.mono (mem_below hW))
        obtain ⟨y1, hy1⟩ : ∃ y, y = fewExs args (z - 1 - (s.size : Int) / 100) := ⟨_, rfl⟩
        rw [← hy1] at hstep g1 c1'
        have g2 := (fewPts_g pats y1).1
        have c2' := fun (W : World) (hW : Below wr.heap.size wr W) => fewPts_any _ pats v2 y1 W (Nat.lt_succ_self _) (by omega) (h2.mono (mem_below hW))
        obtain ⟨y2, hy2⟩ : ∃ y, y = fewPts pats y1 := ⟨_, rfl⟩
        rw [← hy2] at hstep g2 c2'
        have g3 := (fewAls_gone alts y2).1
        have c3' := fun (W : World) (hW : Below wr.heap.size wr W) => HAA.out alts v3 y2 W (by omega) (by omega) (h3.mono (mem_below hW))
        obtain ⟨y3, hy3⟩ : ∃ y, y = fewAls alts y2 := ⟨_, rfl⟩
        rw [← hy3] at hstep g3 c3'
        have g4 := (fewDes_gone decls y3).1
        have c4' := fun (W : World) (hW : Below wr.heap.size wr W) => HDD.out decls v4 y3 W (by omega) (by omega) (h4.mono (mem_below hW))
        obtain ⟨y4, hy4⟩ : ∃ y, y = fewDes decls y3 := ⟨_, rfl⟩
        rw [← hy4] at hstep g4 c4'
        have hz4 : y4 ≤ left := by omega
        have HST := Lib.hid hstep; have K1 := Lib.hid c1'; have K2 := Lib.hid c2'; have K3 := Lib.hid c3'; have K4 := Lib.hid c4'
        have RR := Lib.hid r1; have HOK := Lib.hid hone
        have hk1 : (q : Int) < (n1 : Int) := by omega
        have II := Lib.hid Try.irE
        have lw : wr.heap.size < wr.heap.size + 1 := Nat.lt_succ_self _
        clear hc1 r1 ec h1 h2 h3 h4 hdrop hmem hx hcq hone hstep g1 g2 g3 g4 c1' c2' c3' c4' hy1 hy2 hy3 hy4 hdiv2
        go_wp2_with (first | ((with_reducible refine at_ld 20 ?_); refine wpList_load_mid rfl 86 (.tmp 19) rfl g (o + q * 8) rfl [.int .i64 k, .int .i64 a, .string s, .int .i64 m, v1, v2, v3, v4] _ RR.out Try.underlying86 rfl II.out ?_) | ((with_reducible refine at_st 6 20 ?_); refine wpList_store_new rfl 86 (.tmp 6) (.tmp 20) rfl wr.heap.size rfl rfl #[.int .i64 k, .int .i64 a, .string s, .int .i64 m, v1, v2, v3, v4] rfl #[.int .i64 0, .int .i64 0, .string { data := #[] }, .int .i64 0, .slice none 0 0, .slice none 0 0, .slice none 0 0, .slice none 0 0] II.out rfl HOK.out.arr ?_))
        refine (K1.out _ (bl1 _ _)).mono ?_
        rintro e w2 ⟨rfl, hb⟩
        have B2 := Lib.hid (bl_tr (bl1 _ _) hb)
        obtain ⟨hcA, _⟩ := bcell hb
        have hz2 : wr.heap.size < w2.heap.size := by have := hb.size; simp at this; omega
        clear hb
        go_wp2_with fail
        refine (K2.out _ B2.out).mono ?_
        rintro e w3 ⟨rfl, hb⟩
        have B3 := Lib.hid (bl_tr B2.out hb)
        obtain ⟨hcB, _⟩ := bcell hb
        have hz3 : wr.heap.size < w3.heap.size := by have := hb.size; omega
        clear hb
        go_wp2_with fail
        refine (K3.out _ B3.out).mono ?_
        rintro e w4 ⟨rfl, hb⟩
        have B4 := Lib.hid (bl_tr B3.out hb)
        obtain ⟨hcC, _⟩ := bcell hb
        clear hb
        go_wp2_with fail
        refine (K4.out _ B4.out).mono ?_
        rintro e w5 ⟨rfl, hb⟩
        have B5 := Lib.hid (bl_tr B4.out hb)
        clear hb hcA hcB hcC
        go_wp2_with fail
        go_roundg (n1 - (q + 1))
        case measure => omega
        case rel => exact ⟨q + 1, y4, by omega, rfl, by go_num, rfl, hz4, Lib.hid (bl_tr HBR.out B5.out), Lib.hid (by rw [← HF.out, HST.out])⟩
    · obtain rfl : q = n1 := by omega
      go_wp2_with fail
      go_ret
      exact ⟨ret_i (by
        rw [← HF.out, HN.out, List.drop_length]
        rw [fewExs]), HBR.out⟩
end Go.Proofs.Ytfeghobfkgimfaa
