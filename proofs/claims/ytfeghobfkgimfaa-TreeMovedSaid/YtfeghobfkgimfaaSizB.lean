/- How many expressions, how deep. -/
import Derived.Test.YtfeghobfkgimfaaSizA
import Derived.Lib.MinMax
namespace Go.Proofs.Ytfeghobfkgimfaa
set_option linter.unusedSimpArgs false
set_option linter.unusedVariables false
open Go.RowKit Go.Shelf

mutual
def sizeEx : Ex → Int
  | .mk _ _ _ _ args _ alts decls => 1 + sizeExs args + sizeAls alts + sizeDes decls
def sizeExs : List Ex → Int
  | [] => 0
  | e :: l => sizeEx e + sizeExs l
def sizeAls : List Al → Int
  | [] => 0
  | .mk _ b :: l => sizeEx b + sizeAls l
def sizeDes : List De → Int
  | [] => 0
  | .mk k _ _ _ _ _ _ b :: l => (if k = 3 then sizeEx b else 0) + sizeDes l
end
mutual
def deepEx : Ex → Int
  | .mk _ _ _ _ args _ alts decls => max (max (deepExs args) (deepAls alts)) (deepDes decls) + 1
def deepExs : List Ex → Int
  | [] => 0
  | e :: l => max (deepEx e) (deepExs l)
def deepAls : List Al → Int
  | [] => 0
  | .mk _ b :: l => max (deepEx b) (deepAls l)
def deepDes : List De → Int
  | [] => 0
  | .mk k _ _ _ _ _ _ b :: l => max (if k = 3 then deepEx b else 0) (deepDes l)
end
theorem sizeExs_app (l m : List Ex) : sizeExs (l ++ m) = sizeExs l + sizeExs m := by
  induction l with
  | nil => simp [sizeExs]
  | cons x l ih => simp only [List.cons_append, sizeExs, ih]; omega
theorem sizeAls_map (l : List Al) : sizeExs (l.map Al.body) = sizeAls l := by
  induction l with
  | nil => rfl
  | cons x l ih => obtain ⟨p, b⟩ := x; simp only [List.map_cons, sizeExs, sizeAls, ih]; rfl
theorem sizeDes_map (l : List De) : sizeExs ((l.filter (fun d => decide (d.kind = 3))).map De.body) = sizeDes l := by
  induction l with
  | nil => rfl
  | cons x l ih =>
    obtain ⟨k, a, s, vars, cons, ty, pats, b⟩ := x
    by_cases h : k = 3
    · subst h
      rw [List.filter_cons_of_pos (by simp [De.kind]), List.map_cons, sizeExs, ih, sizeDes]; simp [De.body]
    · rw [List.filter_cons_of_neg (by simp [De.kind, h]), ih, sizeDes, if_neg h]; omega
theorem sizeEx_inn (D : Ex) : sizeEx D = 1 + sizeExs (inn D) := by
  obtain ⟨k, a, s, n, args, pats, alts, decls⟩ := D
  rw [sizeEx, inn, sizeExs_app, sizeExs_app, sizeAls_map, sizeDes_map]; omega
theorem size_pos (n : Nat) : (∀ e : Ex, SizeOf.sizeOf e < n → 1 ≤ sizeEx e ∧ sizeEx e ≤ cntEx e ∧ 1 ≤ deepEx e ∧ deepEx e ≤ sizeEx e) ∧ (∀ l : List Ex, SizeOf.sizeOf l < n → 0 ≤ sizeExs l ∧ sizeExs l ≤ cntExs l ∧ 0 ≤ deepExs l ∧ deepExs l ≤ sizeExs l) ∧
    (∀ l : List Al, SizeOf.sizeOf l < n → 0 ≤ sizeAls l ∧ sizeAls l ≤ cntAls l ∧ 0 ≤ deepAls l ∧ deepAls l ≤ sizeAls l) ∧ (∀ l : List De, SizeOf.sizeOf l < n → 0 ≤ sizeDes l ∧ sizeDes l ≤ cntDes l ∧ 0 ≤ deepDes l ∧ deepDes l ≤ sizeDes l) := by
  induction n with
  | zero => exact ⟨fun _ h => by omega, fun _ h => by omega, fun _ h => by omega, fun _ h => by omega⟩
  | succ n ih =>
    obtain ⟨i1, i2, i3, i4⟩ := ih
    refine ⟨fun e h => ?_, fun l h => ?_, fun l h => ?_, fun l h => ?_⟩
    · obtain ⟨k, a, s, m, args, pats, alts, decls⟩ := e
      simp at h
      rw [sizeEx, cntEx, deepEx]
      have h1 := i2 args (by omega); have h2 := i3 alts (by omega); have h3 := i4 decls (by omega)
      omega
    · cases l with
      | nil => simp [sizeExs, cntExs, deepExs]
      | cons x l =>
        simp at h
        rw [sizeExs, cntExs, deepExs]
        have h1 := i1 x (by omega); have h2 := i2 l (by omega)
        omega
    · cases l with
      | nil => simp [sizeAls, cntAls, deepAls]
      | cons x l =>
        obtain ⟨p, b⟩ := x
        simp at h
        rw [sizeAls, cntAls, deepAls]
        have h1 := i1 b (by omega); have h2 := i3 l (by omega)
        omega
    · cases l with
      | nil => simp [sizeDes, cntDes, deepDes]
      | cons x l =>
        obtain ⟨k, a, s, vars, cons, ty, pats, b⟩ := x
        simp at h
        rw [sizeDes, cntDes, deepDes]
        have h1 := i1 b (by omega); have h2 := i4 l (by omega)
        by_cases h3 : k = 3
        · rw [if_pos h3, if_pos h3]; omega
        · rw [if_neg h3, if_neg h3]; omega
theorem size_le (e : Ex) : 1 ≤ sizeEx e ∧ sizeEx e ≤ cntEx e ∧ 1 ≤ deepEx e ∧ deepEx e ≤ sizeEx e := (size_pos _).1 e (Nat.lt_succ_self _)
theorem sizes_le (l : List Ex) : 0 ≤ sizeExs l ∧ sizeExs l ≤ cntExs l ∧ 0 ≤ deepExs l ∧ deepExs l ≤ sizeExs l := (size_pos _).2.1 l (Nat.lt_succ_self _)
theorem deepExs_app (l m : List Ex) : deepExs (l ++ m) = max (deepExs l) (deepExs m) := by
  induction l with
  | nil => simp only [List.nil_append, deepExs]; have := (sizes_le m).2.2.1; omega
  | cons x l ih => simp only [List.cons_append, deepExs, ih]; omega
theorem deepAls_map (l : List Al) : deepExs (l.map Al.body) = deepAls l := by
  induction l with
  | nil => rfl
  | cons x l ih => obtain ⟨p, b⟩ := x; simp only [List.map_cons, deepExs, deepAls, ih]; rfl
theorem deepDes_map (l : List De) : deepExs ((l.filter (fun d => decide (d.kind = 3))).map De.body) = deepDes l := by
  induction l with
  | nil => rfl
  | cons x l ih =>
    obtain ⟨k, a, s, vars, cons, ty, pats, b⟩ := x
    by_cases h : k = 3
    · subst h
      rw [List.filter_cons_of_pos (by simp [De.kind]), List.map_cons, deepExs, ih, deepDes]; simp [De.body]
    · rw [List.filter_cons_of_neg (by simp [De.kind, h]), ih, deepDes, if_neg h]
      have := ((size_pos _).2.2.2 l (Nat.lt_succ_self _)).2.2.1; omega
theorem deepEx_inn (D : Ex) : deepEx D = deepExs (inn D) + 1 := by
  obtain ⟨k, a, s, n, args, pats, alts, decls⟩ := D
  rw [deepEx, inn, deepExs_app, deepExs_app, deepAls_map, deepDes_map]
theorem inn_mem {D x : Ex} (h : x ∈ inn D) : SizeOf.sizeOf x < SizeOf.sizeOf D ∧ cntEx x ≤ cntEx D := by
  obtain ⟨k, a, s, n, args, pats, alts, decls⟩ := D
  rw [inn] at h
  simp only [List.mem_append, List.mem_map, List.mem_filter] at h
  rcases h with (h | ⟨y, hy, rfl⟩) | ⟨y, ⟨hy, _⟩, rfl⟩
  · have h1 := List.sizeOf_lt_of_mem h; have h2 := cntExs_mem h
    simp only [cntEx]; simp; omega
  · have h1 := List.sizeOf_lt_of_mem hy
    obtain ⟨p, b⟩ := y
    have h2 := cntAls_mem hy
    simp only [cntEx, Al.body]; simp at h1 ⊢; omega
  · have h1 := List.sizeOf_lt_of_mem hy
    obtain ⟨k', a', s', vars, cons, ty, pats', b⟩ := y
    have h2 := cntDes_mem hy
    simp only [cntEx, De.body]; simp at h1 ⊢; omega
theorem inn_len (D : Ex) : (inn D).length ≤ cntEx D := by
  have h := (sizes_le (inn D)).2.1
  have h1 := sizeEx_inn D
  have h2 := (size_le D).2.1
  have h3 : ∀ l : List Ex, (l.length : Int) ≤ sizeExs l := fun l => by
    induction l with
    | nil => simp [sizeExs]
    | cons x l ih => rw [sizeExs, List.length_cons]; have := (size_le x).1; omega
  have := h3 (inn D)
  omega

set_option maxRecDepth 100000 in
set_option maxHeartbeats 8000000 in
theorem size_of (D : Ex) (cs : List Value) (w : World) (hcnt : cntEx D ≤ 100000) (hD : ExC (mem w) D cs)
    (ih : ∀ D' ∈ inn D, ∀ cs' W, ExC (mem W) D' cs' → Calls Try.prog 38 #[.agg cs'.toArray] W (NumV (sizeEx D') W)) : Calls Try.prog 38 #[.agg cs.toArray] w (NumV (sizeEx D) w) := by
  have hin := fun (W : World) (hb : Below w.heap.size w W) => inner_any D cs W hcnt (hD.mono (mem_below hb))
  have hsz : 1 ≤ sizeEx D ∧ sizeEx D ≤ 100000 ∧ 1 ≤ deepEx D ∧ deepEx D ≤ sizeEx D := by have := size_le D; omega
  have hlen := inn_len D
  obtain ⟨c0, c1, c2, c3, c4, c5, c6, c7, rfl⟩ := len8 hD.len
  have HCNT := Lib.hid hcnt; have HIN := Lib.hid hin; have HI := Lib.hid ih; have HSZ := Lib.hid hsz
  have hlen1 : (inn D).length ≤ 100000 := by omega
  have IE := Lib.hid (show (Try.prog.info? 93).map (·.size) = some ([c0, c1, c2, c3, c4, c5, c6, c7] : List Value).length from Try.irEE)
  have RR := Lib.hid (range_new w 93 [c0, c1, c2, c3, c4, c5, c6, c7])
  have HOK := Lib.hid hD.ok.arr
  clear hin hD ih hsz hlen hcnt
  go_enter Try.func38, Try.ntmps38
  go_wp2_with (((with_reducible refine at_ld 6 ?_); refine wpList_load_mid rfl 93 (.tmp 1) rfl w.heap.size 0 rfl [c0, c1, c2, c3, c4, c5, c6, c7] _ RR.out Try.underlying93 rfl IE.out ?_))
  refine (HIN.out _ (bl1 w _)).mono ?_
  rintro e w1 ⟨vv, rfl, hb1, hv⟩
  obtain ⟨A, c, C, rfl, hc, hA, hC⟩ := hv
  have HBW : Hid (Below w.heap.size w w1) := Lib.hid (bl_tr (bl1 w _) hb1)
  have HA := Lib.hid hA; have HCC := Lib.hid hC
  have O1 : Hid (∀ i, i < (inn D).length → (C i).length = 8) := Lib.hid (fun i hi => (hC i hi).len)
  clear hb1 hA hC hc
  obtain ⟨n1, e1⟩ : ∃ x, x = (inn D).length := ⟨_, rfl⟩
  rw [← e1] at HA O1 hlen1 ⊢
  have HN := Lib.hid e1
  clear e1
  go_wp2_with fail
  go_loopg [3, 9] n1 (fun gk z i wr => ∃ (q : Nat) (z0 : Int), q ≤ n1 ∧ gk = n1 - q ∧ i = .int .i64 q ∧ z = .int .i64 z0 ∧ Hid (Below w1.heap.size w1 wr) ∧ Hid (0 ≤ z0 ∧ z0 + sizeExs ((inn D).drop q) = sizeEx D))
  case atStart => exact ⟨0, 1, Nat.zero_le _, rfl, rfl, rfl, Lib.hid (Below.refl _ _), Lib.hid ⟨by omega, by rw [List.drop_zero, sizeEx_inn]⟩⟩
  case round =>
    obtain ⟨q, z, hq, rfl, rfl, rfl, HBR, HF⟩ := hrel
    by_cases hlt : q < n1
    · obtain ⟨g, o, rfl, hc1⟩ := HA.out (by omega)
      have hql : q < (inn D).length := by rw [← HN.out]; exact hlt
      have hcq := (HCC.out q hql).mono (mem_below HBR.out)
      have r1 := range_at HBR.out hc1 hlt (O1.out q hlt)
      have hdrop := List.drop_eq_getElem_cons hql
      have hcall := fun (W : World) (hb : Below wr.heap.size wr W) => HI.out (inn D)[q] (List.getElem_mem hql) (C q) W (hcq.mono (mem_below hb))
      have hxc := (inn_mem (List.getElem_mem hql)).2
      obtain ⟨x, hx⟩ : ∃ x, x = (inn D)[q] := ⟨_, rfl⟩
      rw [← hx] at hcq hcall hdrop hxc
      have hct := HCNT.out
      have hone := hcq.ok
      obtain ⟨e0, e1, e2, e3, e4, e5, e6, e7, ec⟩ := len8 hcq.len
      rw [ec] at r1 hone hcall
      have hf := HF.out
      rw [hdrop, sizeExs] at hf
      have hs2 := sizes_le ((inn D).drop (q + 1))
      have hs3 := size_le x
      have hs4 := HSZ.out
      have wz : IntKind.i64.wrap (z + sizeEx x) = z + sizeEx x := IntWalk.i64_in _ (by omega)
      have HF2 := Lib.hid hf; have RR1 := Lib.hid r1; have HOK1 := Lib.hid hone.arr; have HCQ := Lib.hid hcall
      have RR2 := Lib.hid (range_new wr 93 [e0, e1, e2, e3, e4, e5, e6, e7])
      have II := Lib.hid (show (Try.prog.info? 93).map (·.size) = some ([e0, e1, e2, e3, e4, e5, e6, e7] : List Value).length from Try.irEE)
      have hk1 : (q : Int) < (n1 : Int) := by omega
      clear hc1 r1 hcq hcall hdrop hx hone ec hf hs2 hs3 hs4 hxc hct
      go_wp2_with (first | ((with_reducible refine at_ld 12 ?_); refine wpList_load_mid rfl 93 (.tmp 11) rfl g (o + q * 8) rfl [e0, e1, e2, e3, e4, e5, e6, e7] _ RR1.out Try.underlying93 rfl II.out ?_) | ((with_reducible refine at_st 5 12 ?_); refine wpList_store_new rfl 93 (.tmp 5) (.tmp 12) rfl wr.heap.size rfl rfl #[e0, e1, e2, e3, e4, e5, e6, e7] rfl #[.int .i64 0, .int .i64 0, .string { data := #[] }, .int .i64 0, .slice none 0 0, .slice none 0 0, .slice none 0 0, .slice none 0 0] II.out rfl HOK1.out ?_) | ((with_reducible refine at_ld 14 ?_); refine wpList_load_mid rfl 93 (.tmp 5) rfl wr.heap.size 0 rfl [e0, e1, e2, e3, e4, e5, e6, e7] _ RR2.out Try.underlying93 rfl II.out ?_))
      refine (HCQ.out _ (bl1 wr _)).mono ?_
      rintro e w2 ⟨rfl, hb2⟩
      have HB2 : Hid (Below wr.heap.size wr w2) := Lib.hid (bl_tr (bl1 wr _) hb2)
      clear hb2
      go_wp2_with fail
      go_roundg (n1 - (q + 1))
      case measure => omega
      case rel => exact ⟨q + 1, z + sizeEx x, by omega, rfl, by go_num, rfl, Lib.hid (bl_tr HBR.out HB2.out), Lib.hid (by have := HF2.out; have := (sizes_le ((inn D).drop (q + 1))); have := size_le x; omega)⟩
    · obtain rfl : n1 = q := by omega
      have hf := HF.out
      rw [HN.out, List.drop_length] at hf
      rw [sizeExs] at hf
      go_wp2_with fail
      go_ret
      exact ⟨ret_i (by omega), bl_tr HBW.out HBR.out⟩
theorem size_ring (n : Nat) : ∀ (D : Ex) (cs : List Value) (w : World), SizeOf.sizeOf D < n → cntEx D ≤ 100000 → ExC (mem w) D cs → Calls Try.prog 38 #[.agg cs.toArray] w (NumV (sizeEx D) w) := by
  induction n with
  | zero => intro D cs w h; omega
  | succ n ih =>
    intro D cs w hn hcnt hD
    exact size_of D cs w hcnt hD (fun D' hD' cs' W hC => ih D' cs' W (by have := (inn_mem hD').1; omega) (by have := (inn_mem hD').2; omega) hC)
theorem size_any (D : Ex) (cs : List Value) (w : World) (hcnt : cntEx D ≤ 100000) (hD : ExC (mem w) D cs) : Calls Try.prog 38 #[.agg cs.toArray] w (NumV (sizeEx D) w) := size_ring _ D cs w (Nat.lt_succ_self _) hcnt hD

set_option maxRecDepth 100000 in
set_option maxHeartbeats 8000000 in
theorem deep_of (D : Ex) (cs : List Value) (w : World) (hcnt : cntEx D ≤ 100000) (hD : ExC (mem w) D cs)
    (ih : ∀ D' ∈ inn D, ∀ cs' W, ExC (mem W) D' cs' → Calls Try.prog 39 #[.agg cs'.toArray] W (NumV (deepEx D') W)) : Calls Try.prog 39 #[.agg cs.toArray] w (NumV (deepEx D) w) := by
  have hin := fun (W : World) (hb : Below w.heap.size w W) => inner_any D cs W hcnt (hD.mono (mem_below hb))
  have hsz : 1 ≤ sizeEx D ∧ sizeEx D ≤ 100000 ∧ 1 ≤ deepEx D ∧ deepEx D ≤ sizeEx D := by have := size_le D; omega
  have hlen := inn_len D
  obtain ⟨c0, c1, c2, c3, c4, c5, c6, c7, rfl⟩ := len8 hD.len
  have HCNT := Lib.hid hcnt; have HIN := Lib.hid hin; have HI := Lib.hid ih; have HSZ := Lib.hid hsz
  have hlen1 : (inn D).length ≤ 100000 := by omega
  have IE := Lib.hid (show (Try.prog.info? 93).map (·.size) = some ([c0, c1, c2, c3, c4, c5, c6, c7] : List Value).length from Try.irEE)
  have RR := Lib.hid (range_new w 93 [c0, c1, c2, c3, c4, c5, c6, c7])
  have HOK := Lib.hid hD.ok.arr
  clear hin hD ih hsz hlen hcnt
  go_enter Try.func39, Try.ntmps39
  go_wp2_with (((with_reducible refine at_ld 6 ?_); refine wpList_load_mid rfl 93 (.tmp 1) rfl w.heap.size 0 rfl [c0, c1, c2, c3, c4, c5, c6, c7] _ RR.out Try.underlying93 rfl IE.out ?_))
  refine (HIN.out _ (bl1 w _)).mono ?_
  rintro e w1 ⟨vv, rfl, hb1, hv⟩
  obtain ⟨A, c, C, rfl, hc, hA, hC⟩ := hv
  have HBW : Hid (Below w.heap.size w w1) := Lib.hid (bl_tr (bl1 w _) hb1)
  have HA := Lib.hid hA; have HCC := Lib.hid hC
  have O1 : Hid (∀ i, i < (inn D).length → (C i).length = 8) := Lib.hid (fun i hi => (hC i hi).len)
  clear hb1 hA hC hc
  obtain ⟨n1, e1⟩ : ∃ x, x = (inn D).length := ⟨_, rfl⟩
  rw [← e1] at HA O1 hlen1 ⊢
  have HN := Lib.hid e1
  clear e1
  go_wp2_with fail
  go_loopg [3, 9] n1 (fun gk z i wr => ∃ (q : Nat) (z0 : Int), q ≤ n1 ∧ gk = n1 - q ∧ i = .int .i64 q ∧ z = .int .i64 z0 ∧ Hid (Below w1.heap.size w1 wr) ∧ Hid (0 ≤ z0 ∧ z0 ≤ 100000 ∧ max z0 (deepExs ((inn D).drop q)) = deepExs (inn D)))
  case atStart => exact ⟨0, 0, Nat.zero_le _, rfl, rfl, rfl, Lib.hid (Below.refl _ _), Lib.hid ⟨by omega, by omega, by rw [List.drop_zero]; have := (sizes_le (inn D)).2.2.1; omega⟩⟩
  case round =>
    obtain ⟨q, z, hq, rfl, rfl, rfl, HBR, HF⟩ := hrel
    by_cases hlt : q < n1
    · obtain ⟨g, o, rfl, hc1⟩ := HA.out (by omega)
      have hql : q < (inn D).length := by rw [← HN.out]; exact hlt
      have hcq := (HCC.out q hql).mono (mem_below HBR.out)
      have r1 := range_at HBR.out hc1 hlt (O1.out q hlt)
      have hdrop := List.drop_eq_getElem_cons hql
      have hcall := fun (W : World) (hb : Below wr.heap.size wr W) => HI.out (inn D)[q] (List.getElem_mem hql) (C q) W (hcq.mono (mem_below hb))
      have hxc := (inn_mem (List.getElem_mem hql)).2
      obtain ⟨x, hx⟩ : ∃ x, x = (inn D)[q] := ⟨_, rfl⟩
      rw [← hx] at hcq hcall hdrop hxc
      have hct := HCNT.out
      have hone := hcq.ok
      obtain ⟨e0, e1, e2, e3, e4, e5, e6, e7, ec⟩ := len8 hcq.len
      rw [ec] at r1 hone hcall
      have hf := HF.out
      rw [hdrop, deepExs] at hf
      have hs2 := sizes_le ((inn D).drop (q + 1))
      have hs3 := size_le x
      have hs4 := HSZ.out
      have hm1 : deepEx x ≤ 100000 := by omega
      have HF2 := Lib.hid hf; have RR1 := Lib.hid r1; have HOK1 := Lib.hid hone.arr; have HCQ := Lib.hid hcall
      have RR2 := Lib.hid (range_new wr 93 [e0, e1, e2, e3, e4, e5, e6, e7])
      have II := Lib.hid (show (Try.prog.info? 93).map (·.size) = some ([e0, e1, e2, e3, e4, e5, e6, e7] : List Value).length from Try.irEE)
      have hk1 : (q : Int) < (n1 : Int) := by omega
      clear hc1 r1 hcq hcall hdrop hx hone ec hf hs2 hs3 hs4 hxc hct
      go_wp2_with (first | ((with_reducible refine at_ld 12 ?_); refine wpList_load_mid rfl 93 (.tmp 11) rfl g (o + q * 8) rfl [e0, e1, e2, e3, e4, e5, e6, e7] _ RR1.out Try.underlying93 rfl II.out ?_) | ((with_reducible refine at_st 5 12 ?_); refine wpList_store_new rfl 93 (.tmp 5) (.tmp 12) rfl wr.heap.size rfl rfl #[e0, e1, e2, e3, e4, e5, e6, e7] rfl #[.int .i64 0, .int .i64 0, .string { data := #[] }, .int .i64 0, .slice none 0 0, .slice none 0 0, .slice none 0 0, .slice none 0 0] II.out rfl HOK1.out ?_) | ((with_reducible refine at_ld 14 ?_); refine wpList_load_mid rfl 93 (.tmp 5) rfl wr.heap.size 0 rfl [e0, e1, e2, e3, e4, e5, e6, e7] _ RR2.out Try.underlying93 rfl II.out ?_))
      refine (HCQ.out _ (bl1 wr _)).mono ?_
      rintro e w2 ⟨rfl, hb2⟩
      have HB2 : Hid (Below wr.heap.size wr w2) := Lib.hid (bl_tr (bl1 wr _) hb2)
      clear hb2
      go_wp2_with fail
      go_roundg (n1 - (q + 1))
      case measure => omega
      case rel => exact ⟨q + 1, max z (deepEx x), by omega, rfl, by go_num, rfl, Lib.hid (bl_tr HBR.out HB2.out), Lib.hid (by have := HF2.out; have := (sizes_le ((inn D).drop (q + 1))); have := size_le x; omega)⟩
    · obtain rfl : n1 = q := by omega
      have hf := HF.out
      rw [HN.out, List.drop_length] at hf
      rw [deepExs] at hf
      have hd := deepEx_inn D
      have wz : IntKind.i64.wrap (z + 1) = z + 1 := IntWalk.i64_in _ (by omega)
      go_wp2_with fail
      go_ret
      exact ⟨ret_i (by omega), bl_tr HBW.out HBR.out⟩
theorem deep_ring (n : Nat) : ∀ (D : Ex) (cs : List Value) (w : World), SizeOf.sizeOf D < n → cntEx D ≤ 100000 → ExC (mem w) D cs → Calls Try.prog 39 #[.agg cs.toArray] w (NumV (deepEx D) w) := by
  induction n with
  | zero => intro D cs w h; omega
  | succ n ih =>
    intro D cs w hn hcnt hD
    exact deep_of D cs w hcnt hD (fun D' hD' cs' W hC => ih D' cs' W (by have := (inn_mem hD').1; omega) (by have := (inn_mem hD').2; omega) hC)
theorem deep_any (D : Ex) (cs : List Value) (w : World) (hcnt : cntEx D ≤ 100000) (hD : ExC (mem w) D cs) : Calls Try.prog 39 #[.agg cs.toArray] w (NumV (deepEx D) w) := deep_ring _ D cs w (Nat.lt_succ_self _) hcnt hD
end Go.Proofs.Ytfeghobfkgimfaa
