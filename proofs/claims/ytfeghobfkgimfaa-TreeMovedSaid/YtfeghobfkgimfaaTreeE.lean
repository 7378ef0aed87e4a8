/- slices.EqualFunc and alike, at each type of the trees. -/
import Derived.Test.YtfeghobfkgimfaaTreeL
namespace Go.Proofs.Ytfeghobfkgimfaa
set_option linter.unusedSimpArgs false
set_option linter.unusedVariables false
open Go.RowKit Go.Shelf

/-- Is it so of the first n? -/
def allB (n : Nat) (R : Nat → Bool) : Bool := (List.range n).all R
theorem allB_succ (n : Nat) (R : Nat → Bool) : allB (n + 1) R = (allB n R && R n) := by simp [allB, List.range_succ]
theorem allB_true {n : Nat} {R : Nat → Bool} : allB n R = true ↔ ∀ i, i < n → R i = true := by simp [allB]
theorem allB_false {n i : Nat} {R : Nat → Bool} (hi : i < n) (h : R i = false) : allB n R = false := by
  cases e : allB n R
  · rfl
  · rw [allB_true] at e; rw [e i hi] at h; cases h
def eqB (n1 n2 : Nat) (R : Nat → Bool) : Bool := decide (n1 = n2) && allB n1 R
theorem eqB_ne {n1 n2 : Nat} {R : Nat → Bool} (h : n1 ≠ n2) : eqB n1 n2 R = false := by simp [eqB, h]
theorem eqB_eq {n : Nat} {R : Nat → Bool} : eqB n n R = allB n R := by simp [eqB]

/-- Elements whose cells nobody looks at. -/
def Ok (sz : Nat) (C : List Value) : Prop := C.length = sz ∧ ∀ v ∈ C, v.oneCell' = true
theorem Ok.arr {sz : Nat} {C : List Value} (h : Ok sz C) : ∀ v ∈ C.toArray, v.oneCell' = true := fun v hv => h.2 v (by simpa using hv)
theorem TyC.ok {m : Mem} {d : Ty} {cs : List Value} (h : TyC m d cs) : Ok 4 cs := by
  cases h; exact ⟨rfl, by simp [Value.oneCell']⟩
theorem PtC.ok {m : Mem} {d : Pt} {cs : List Value} (h : PtC m d cs) : Ok 5 cs := by
  cases h; exact ⟨rfl, by simp [Value.oneCell']⟩
theorem CoC.ok {m : Mem} {d : Co} {cs : List Value} (h : CoC m d cs) : Ok 3 cs := by
  obtain ⟨v, rfl, A, c, C, rfl, _⟩ := h
  exact ⟨rfl, by simp [Value.oneCell']⟩
theorem ExC.ok {m : Mem} {d : Ex} {cs : List Value} (h : ExC m d cs) : Ok 8 cs := by
  obtain ⟨k, a, s, n, l, pats, alts, decls⟩ := d
  obtain ⟨v1, v2, v3, v4, rfl, ⟨A, c, C, rfl, _⟩, ⟨A2, c2, C2, rfl, _⟩, ⟨A3, c3, C3, rfl, _⟩, ⟨A4, c4, C4, rfl, _⟩⟩ := h.inv
  exact ⟨rfl, by simp [Value.oneCell']⟩
theorem Ok.app {n m : Nat} {a b : List Value} (h : Ok n a) (k : Ok m b) : Ok (n + m) (a ++ b) := ⟨by rw [List.length_append, h.1, k.1], fun v hv => by
  rcases List.mem_append.1 hv with hv | hv
  · exact h.2 v hv
  · exact k.2 v hv⟩
theorem AlC.ok {m : Mem} {d : Al} {cs : List Value} (h : AlC m d cs) : Ok 13 cs := by
  obtain ⟨p, b⟩ := d
  obtain ⟨cp, cb, rfl, hp, hb⟩ := h.inv
  exact hp.ok.app hb.ok
theorem DeC.ok {m : Mem} {d : De} {cs : List Value} (h : DeC m d cs) : Ok 18 cs := by
  obtain ⟨k, a, s, vars, cons, ty, pats, body⟩ := d
  obtain ⟨vv, vc, vp, ct, cb, rfl, ⟨A, c, rfl, _⟩, _, ⟨A2, c2, C2, rfl, _⟩, ht, ⟨A3, c3, C3, rfl, _⟩, hb⟩ := h.inv
  have h1 : Ok 5 [.int .i64 k, .int .i64 a, .string s, .slice A vars.length c, .slice A2 cons.length c2] := ⟨rfl, by simp [Value.oneCell']⟩
  have h2 : Ok 1 [.slice A3 pats.length c3] := ⟨rfl, by simp [Value.oneCell']⟩
  exact ((h1.app ht.ok).app h2).app hb.ok
/-- An element's cells in their row. -/
theorem range_at {w W : World} {sz n i g o : Nat} {C : Nat → List Value} (hb : Below w.heap.size w W) (hc : ∀ i, i < n → ∀ j, j < sz → mem w g (o + i * sz + j) = (C i)[j]?) (hi : i < n) (hl : (C i).length = sz) : W.rangeAt g (o + i * sz) (C i) := fun j v hv => by
  have hj : j < sz := by rw [← hl]; exact (List.getElem?_eq_some_iff.1 hv).1
  have h1 : w.cell? ⟨g, o + i * sz + j, none⟩ = some v := (hc i hi j hj).trans hv
  exact (hb.cell (p := ⟨g, o + i * sz + j, none⟩) (cell_lt h1)).trans h1
theorem range_on {w W : World} {g o : Nat} {cs : List Value} (h : w.rangeAt g o cs) (hb : Below w.heap.size w W) : W.rangeAt g o cs := fun j v hv =>
  (hb.cell (p := ⟨g, o + j, none⟩) (cell_lt (h j v hv))).trans (h j v hv)
theorem range_new (w : World) (t : TypeId) (cs : List Value) : (w.alloc (.cells cs.toArray t)).rangeAt w.heap.size 0 cs := fun j v hv => by
  rw [cell_of_row (w.alloc (.cells cs.toArray t)) w.heap.size (0 + j) cs.toArray t (0, 0) (heap_alloc_new w _), Nat.zero_add]
  simpa using hv
theorem Try.riType : (Try.prog.info? 167).map (·.size) = some 4 := by kernel_rfl
theorem Try.riPat : (Try.prog.info? 128).map (·.size) = some 5 := by kernel_rfl
theorem Try.riExpr : (Try.prog.info? 93).map (·.size) = some 8 := by kernel_rfl
theorem Try.riAlt : (Try.prog.info? 135).map (·.size) = some 13 := by kernel_rfl
theorem Try.riDecl : (Try.prog.info? 171).map (·.size) = some 18 := by kernel_rfl
theorem Try.riCons : (Try.prog.info? 176).map (·.size) = some 3 := by kernel_rfl

set_option maxRecDepth 100000 in
set_option maxHeartbeats 1000000 in
theorem eqfType (C1 C2 : Nat → List Value) (A1 A2 : Option Addr) (n1 n2 c1 c2 : Nat) (R : Nat → Bool) (w : World) (hn1 : n1 ≤ maxLen) (h1 : SlAt (mem w) 4 A1 n1 C1) (h2 : SlAt (mem w) 4 A2 n2 C2)
    (l1 : ∀ i, i < n1 → Ok 4 (C1 i)) (l2 : ∀ i, i < n2 → Ok 4 (C2 i))
    (hR : ∀ i, i < n1 → i < n2 → ∀ W, Below w.heap.size w W → Calls Try.prog 118 #[.agg (C1 i).toArray, .agg (C2 i).toArray] W (RightV (R i) W)) :
    Calls Try.prog 151 #[.slice A1 n1 c1, .slice A2 n2 c2, .func (.func 118) #[] #[]] w (RightV (eqB n1 n2 R) w) := by
  unfold maxLen at hn1
  have H1 := Lib.hid h1; have H2 := Lib.hid h2; have O1 := Lib.hid l1; have O2 := Lib.hid l2; have HR := Lib.hid hR
  clear h1 h2 l1 l2 hR
  by_cases hne : n1 = n2
  · subst hne
    rw [eqB_eq]
    go_enter Try.func151, Try.ntmps151
    go_wp2_with fail
    go_loopg [17] n1 (fun gk i wr => ∃ k : Nat, k ≤ n1 ∧ gk = n1 - k ∧ i = .int .i64 k ∧ Hid (Below w.heap.size w wr) ∧ Hid (∀ i, i < k → R i = true))
    case atStart => exact ⟨0, Nat.zero_le _, rfl, rfl, Lib.hid (Below.refl _ _), Lib.hid (fun i hi => absurd hi (by omega))⟩
    case round =>
      obtain ⟨k, hk, rfl, rfl, HBR, HALL⟩ := hrel
      by_cases hlt : k < n1
      · obtain ⟨g, o, rfl, hc1⟩ := H1.out (by omega)
        obtain ⟨g', o', rfl, hc2⟩ := H2.out (by omega)
        have r1 := range_at HBR.out hc1 hlt (O1.out k hlt).1
        have r2 := range_at HBR.out hc2 hlt (O2.out k hlt).1
        have IH1 := Lib.hid (show (Try.prog.info? 167).map (·.size) = some (C1 k).length from (by rw [(O1.out k hlt).1]; exact Try.riType))
        have IH2 := Lib.hid (show (Try.prog.info? 167).map (·.size) = some (C2 k).length from (by rw [(O2.out k hlt).1]; exact Try.riType))
        have SI1 := Lib.hid (show (Try.prog.info? 167).map (·.size) = some (C1 k).toArray.size from IH1.out)
        have SI2 := Lib.hid (show (Try.prog.info? 167).map (·.size) = some (C2 k).toArray.size from IH2.out)
        have SZ1 := Lib.hid (show (#[.int .i64 0, .int .i64 0, .string { data := #[] }, .slice none 0 0] : Array Value).size = (C1 k).toArray.size from (O1.out k hlt).1.symm)
        have SZ2 := Lib.hid (show (#[.int .i64 0, .int .i64 0, .string { data := #[] }, .slice none 0 0] : Array Value).size = (C2 k).toArray.size from (O2.out k hlt).1.symm)
        have rn : ((wr.alloc (.cells (C1 k).toArray 167)).alloc (.cells (C2 k).toArray 167)).rangeAt (wr.heap.size + 1) 0 (C2 k) := by
          have := range_new (wr.alloc (.cells (C1 k).toArray 167)) 167 (C2 k)
          rwa [World.size_alloc] at this
        have R1 := Lib.hid r1; have R2 := Lib.hid (range_on r2 (bl1 wr (.cells (C1 k).toArray 167))); have R3 := Lib.hid (range_on (range_new wr 167 (C1 k)) (bl1 _ (.cells (C2 k).toArray 167))); have R4 := Lib.hid rn
        have hcall := HR.out k hlt hlt
        have HC := Lib.hid hcall
        obtain ⟨r, hr⟩ : ∃ r, r = R k := ⟨_, rfl⟩
        rw [← hr] at HC
        have HRK := Lib.hid hr
        have hk1 : (k : Int) < (n1 : Int) := by omega
        have hz := HBR.out.size
        clear hc1 hc2 r1 r2 rn hcall hr
        go_wp2_with (first | ((with_reducible refine at_ld 21 ?_); refine wpList_load_mid rfl 167 (.tmp 20) rfl g (o + k * 4) rfl (C1 k) _ R1.out Try.underlying167 rfl IH1.out ?_) | ((with_reducible refine at_st 8 21 ?_); refine wpList_store_new rfl 167 (.tmp 8) (.tmp 21) rfl (wr.heap.size) (by simp) rfl (C1 k).toArray rfl #[.int .i64 0, .int .i64 0, .string { data := #[] }, .slice none 0 0] SI1.out SZ1.out (O1.out k hlt).arr ?_) | ((with_reducible refine at_ld 25 ?_); refine wpList_load_mid rfl 167 (.tmp 24) rfl g' (o' + k * 4) rfl (C2 k) _ R2.out Try.underlying167 rfl IH2.out ?_) | ((with_reducible refine at_st 9 25 ?_); refine wpList_store_new rfl 167 (.tmp 9) (.tmp 25) rfl (wr.heap.size + 1) (by simp) rfl (C2 k).toArray rfl #[.int .i64 0, .int .i64 0, .string { data := #[] }, .slice none 0 0] SI2.out SZ2.out (O2.out k hlt).arr ?_) | ((with_reducible refine at_ld 27 ?_); refine wpList_load_mid rfl 167 (.tmp 8) rfl wr.heap.size (0) rfl (C1 k) _ R3.out Try.underlying167 rfl IH1.out ?_) | ((with_reducible refine at_ld 28 ?_); refine wpList_load_mid rfl 167 (.tmp 9) rfl (wr.heap.size + 1) (0) rfl (C2 k) _ R4.out Try.underlying167 rfl IH2.out ?_))
        refine (HC.out _ (HBR.out.trans ((bl2 _ _ _).mono hz))).mono ?_
        rintro e w2 ⟨rfl, hb2⟩
        have HB2 := Lib.hid (HBR.out.trans (((bl_tr (bl2 _ _ _) hb2)).mono hz))
        clear hb2
        cases r with
        | false =>
          go_wp2_with fail
          go_ret
          exact ⟨ret_b (allB_false hlt HRK.out.symm).symm, HB2.out⟩
        | true =>
          go_wp2_with fail
          go_roundg (n1 - (k + 1))
          case measure => omega
          case rel => exact ⟨k + 1, by omega, rfl, by go_num, HB2, Lib.hid (fun i hi => by
            by_cases h : i < k
            · exact HALL.out i h
            · obtain rfl : i = k := by omega
              exact HRK.out.symm)⟩
      · obtain rfl : k = n1 := by omega
        go_wp2_with fail
        go_ret
        exact ⟨ret_b (allB_true.2 HALL.out).symm, HBR.out⟩
  · have hne2 : ((n1 : Int) != (n2 : Int)) = true := by rw [bne_iff_ne]; omega
    rw [eqB_ne hne]
    go_enter Try.func151, Try.ntmps151
    go_wp2_with fail
    go_ret
    exact ⟨rfl, Below.refl _ _⟩
set_option maxRecDepth 100000 in
theorem alikeType (C1 C2 : Nat → List Value) (A1 A2 : Option Addr) (n1 n2 c1 c2 : Nat) (R : Nat → Bool) (w : World) (hn1 : n1 ≤ maxLen) (h1 : SlAt (mem w) 4 A1 n1 C1) (h2 : SlAt (mem w) 4 A2 n2 C2)
    (l1 : ∀ i, i < n1 → Ok 4 (C1 i)) (l2 : ∀ i, i < n2 → Ok 4 (C2 i))
    (hR : ∀ i, i < n1 → i < n2 → ∀ W, Below w.heap.size w W → Calls Try.prog 118 #[.agg (C1 i).toArray, .agg (C2 i).toArray] W (RightV (R i) W)) :
    Calls Try.prog 133 #[.slice A1 n1 c1, .slice A2 n2 c2, .func (.func 118) #[] #[]] w (RightV (eqB n1 n2 R) w) := by
  have H := Lib.hid (eqfType C1 C2 A1 A2 n1 n2 c1 c2 R w hn1 h1 h2 l1 l2 hR)
  clear h1 h2 l1 l2 hR hn1
  go_enter Try.func133, Try.ntmps133
  go_wp2_with fail
  refine H.out.mono ?_
  rintro e w2 ⟨rfl, hb2⟩
  have HB2 := Lib.hid hb2
  clear hb2
  go_wp2_with fail
  go_ret
  exact ⟨rfl, HB2.out⟩

set_option maxRecDepth 100000 in
set_option maxHeartbeats 1000000 in
theorem eqfPat (C1 C2 : Nat → List Value) (A1 A2 : Option Addr) (n1 n2 c1 c2 : Nat) (R : Nat → Bool) (w : World) (hn1 : n1 ≤ maxLen) (h1 : SlAt (mem w) 5 A1 n1 C1) (h2 : SlAt (mem w) 5 A2 n2 C2)
    (l1 : ∀ i, i < n1 → Ok 5 (C1 i)) (l2 : ∀ i, i < n2 → Ok 5 (C2 i))
    (hR : ∀ i, i < n1 → i < n2 → ∀ W, Below w.heap.size w W → Calls Try.prog 73 #[.agg (C1 i).toArray, .agg (C2 i).toArray] W (RightV (R i) W)) :
    Calls Try.prog 93 #[.slice A1 n1 c1, .slice A2 n2 c2, .func (.func 73) #[] #[]] w (RightV (eqB n1 n2 R) w) := by
  unfold maxLen at hn1
  have H1 := Lib.hid h1; have H2 := Lib.hid h2; have O1 := Lib.hid l1; have O2 := Lib.hid l2; have HR := Lib.hid hR
  clear h1 h2 l1 l2 hR
  by_cases hne : n1 = n2
  · subst hne
    rw [eqB_eq]
    go_enter Try.func93, Try.ntmps93
    go_wp2_with fail
    go_loopg [17] n1 (fun gk i wr => ∃ k : Nat, k ≤ n1 ∧ gk = n1 - k ∧ i = .int .i64 k ∧ Hid (Below w.heap.size w wr) ∧ Hid (∀ i, i < k → R i = true))
    case atStart => exact ⟨0, Nat.zero_le _, rfl, rfl, Lib.hid (Below.refl _ _), Lib.hid (fun i hi => absurd hi (by omega))⟩
    case round =>
      obtain ⟨k, hk, rfl, rfl, HBR, HALL⟩ := hrel
      by_cases hlt : k < n1
      · obtain ⟨g, o, rfl, hc1⟩ := H1.out (by omega)
        obtain ⟨g', o', rfl, hc2⟩ := H2.out (by omega)
        have r1 := range_at HBR.out hc1 hlt (O1.out k hlt).1
        have r2 := range_at HBR.out hc2 hlt (O2.out k hlt).1
        have IH1 := Lib.hid (show (Try.prog.info? 128).map (·.size) = some (C1 k).length from (by rw [(O1.out k hlt).1]; exact Try.riPat))
        have IH2 := Lib.hid (show (Try.prog.info? 128).map (·.size) = some (C2 k).length from (by rw [(O2.out k hlt).1]; exact Try.riPat))
        have SI1 := Lib.hid (show (Try.prog.info? 128).map (·.size) = some (C1 k).toArray.size from IH1.out)
        have SI2 := Lib.hid (show (Try.prog.info? 128).map (·.size) = some (C2 k).toArray.size from IH2.out)
        have SZ1 := Lib.hid (show (#[.int .i64 0, .int .i64 0, .string { data := #[] }, .int .i64 0, .slice none 0 0] : Array Value).size = (C1 k).toArray.size from (O1.out k hlt).1.symm)
        have SZ2 := Lib.hid (show (#[.int .i64 0, .int .i64 0, .string { data := #[] }, .int .i64 0, .slice none 0 0] : Array Value).size = (C2 k).toArray.size from (O2.out k hlt).1.symm)
        have rn : ((wr.alloc (.cells (C1 k).toArray 128)).alloc (.cells (C2 k).toArray 128)).rangeAt (wr.heap.size + 1) 0 (C2 k) := by
          have := range_new (wr.alloc (.cells (C1 k).toArray 128)) 128 (C2 k)
          rwa [World.size_alloc] at this
        have R1 := Lib.hid r1; have R2 := Lib.hid (range_on r2 (bl1 wr (.cells (C1 k).toArray 128))); have R3 := Lib.hid (range_on (range_new wr 128 (C1 k)) (bl1 _ (.cells (C2 k).toArray 128))); have R4 := Lib.hid rn
        have hcall := HR.out k hlt hlt
        have HC := Lib.hid hcall
        obtain ⟨r, hr⟩ : ∃ r, r = R k := ⟨_, rfl⟩
        rw [← hr] at HC
        have HRK := Lib.hid hr
        have hk1 : (k : Int) < (n1 : Int) := by omega
        have hz := HBR.out.size
        clear hc1 hc2 r1 r2 rn hcall hr
        go_wp2_with (first | ((with_reducible refine at_ld 21 ?_); refine wpList_load_mid rfl 128 (.tmp 20) rfl g (o + k * 5) rfl (C1 k) _ R1.out Try.underlying128 rfl IH1.out ?_) | ((with_reducible refine at_st 8 21 ?_); refine wpList_store_new rfl 128 (.tmp 8) (.tmp 21) rfl (wr.heap.size) (by simp) rfl (C1 k).toArray rfl #[.int .i64 0, .int .i64 0, .string { data := #[] }, .int .i64 0, .slice none 0 0] SI1.out SZ1.out (O1.out k hlt).arr ?_) | ((with_reducible refine at_ld 25 ?_); refine wpList_load_mid rfl 128 (.tmp 24) rfl g' (o' + k * 5) rfl (C2 k) _ R2.out Try.underlying128 rfl IH2.out ?_) | ((with_reducible refine at_st 9 25 ?_); refine wpList_store_new rfl 128 (.tmp 9) (.tmp 25) rfl (wr.heap.size + 1) (by simp) rfl (C2 k).toArray rfl #[.int .i64 0, .int .i64 0, .string { data := #[] }, .int .i64 0, .slice none 0 0] SI2.out SZ2.out (O2.out k hlt).arr ?_) | ((with_reducible refine at_ld 27 ?_); refine wpList_load_mid rfl 128 (.tmp 8) rfl wr.heap.size (0) rfl (C1 k) _ R3.out Try.underlying128 rfl IH1.out ?_) | ((with_reducible refine at_ld 28 ?_); refine wpList_load_mid rfl 128 (.tmp 9) rfl (wr.heap.size + 1) (0) rfl (C2 k) _ R4.out Try.underlying128 rfl IH2.out ?_))
        refine (HC.out _ (HBR.out.trans ((bl2 _ _ _).mono hz))).mono ?_
        rintro e w2 ⟨rfl, hb2⟩
        have HB2 := Lib.hid (HBR.out.trans (((bl_tr (bl2 _ _ _) hb2)).mono hz))
        clear hb2
        cases r with
        | false =>
          go_wp2_with fail
          go_ret
          exact ⟨ret_b (allB_false hlt HRK.out.symm).symm, HB2.out⟩
        | true =>
          go_wp2_with fail
          go_roundg (n1 - (k + 1))
          case measure => omega
          case rel => exact ⟨k + 1, by omega, rfl, by go_num, HB2, Lib.hid (fun i hi => by
            by_cases h : i < k
            · exact HALL.out i h
            · obtain rfl : i = k := by omega
              exact HRK.out.symm)⟩
      · obtain rfl : k = n1 := by omega
        go_wp2_with fail
        go_ret
        exact ⟨ret_b (allB_true.2 HALL.out).symm, HBR.out⟩
  · have hne2 : ((n1 : Int) != (n2 : Int)) = true := by rw [bne_iff_ne]; omega
    rw [eqB_ne hne]
    go_enter Try.func93, Try.ntmps93
    go_wp2_with fail
    go_ret
    exact ⟨rfl, Below.refl _ _⟩
set_option maxRecDepth 100000 in
theorem alikePat (C1 C2 : Nat → List Value) (A1 A2 : Option Addr) (n1 n2 c1 c2 : Nat) (R : Nat → Bool) (w : World) (hn1 : n1 ≤ maxLen) (h1 : SlAt (mem w) 5 A1 n1 C1) (h2 : SlAt (mem w) 5 A2 n2 C2)
    (l1 : ∀ i, i < n1 → Ok 5 (C1 i)) (l2 : ∀ i, i < n2 → Ok 5 (C2 i))
    (hR : ∀ i, i < n1 → i < n2 → ∀ W, Below w.heap.size w W → Calls Try.prog 73 #[.agg (C1 i).toArray, .agg (C2 i).toArray] W (RightV (R i) W)) :
    Calls Try.prog 72 #[.slice A1 n1 c1, .slice A2 n2 c2, .func (.func 73) #[] #[]] w (RightV (eqB n1 n2 R) w) := by
  have H := Lib.hid (eqfPat C1 C2 A1 A2 n1 n2 c1 c2 R w hn1 h1 h2 l1 l2 hR)
  clear h1 h2 l1 l2 hR hn1
  go_enter Try.func72, Try.ntmps72
  go_wp2_with fail
  refine H.out.mono ?_
  rintro e w2 ⟨rfl, hb2⟩
  have HB2 := Lib.hid hb2
  clear hb2
  go_wp2_with fail
  go_ret
  exact ⟨rfl, HB2.out⟩

set_option maxRecDepth 100000 in
set_option maxHeartbeats 1000000 in
theorem eqfExpr (C1 C2 : Nat → List Value) (A1 A2 : Option Addr) (n1 n2 c1 c2 : Nat) (R : Nat → Bool) (w : World) (hn1 : n1 ≤ maxLen) (h1 : SlAt (mem w) 8 A1 n1 C1) (h2 : SlAt (mem w) 8 A2 n2 C2)
    (l1 : ∀ i, i < n1 → Ok 8 (C1 i)) (l2 : ∀ i, i < n2 → Ok 8 (C2 i))
    (hR : ∀ i, i < n1 → i < n2 → ∀ W, Below w.heap.size w W → Calls Try.prog 37 #[.agg (C1 i).toArray, .agg (C2 i).toArray] W (RightV (R i) W)) :
    Calls Try.prog 92 #[.slice A1 n1 c1, .slice A2 n2 c2, .func (.func 37) #[] #[]] w (RightV (eqB n1 n2 R) w) := by
  unfold maxLen at hn1
  have H1 := Lib.hid h1; have H2 := Lib.hid h2; have O1 := Lib.hid l1; have O2 := Lib.hid l2; have HR := Lib.hid hR
  clear h1 h2 l1 l2 hR
  by_cases hne : n1 = n2
  · subst hne
    rw [eqB_eq]
    go_enter Try.func92, Try.ntmps92
    go_wp2_with fail
    go_loopg [17] n1 (fun gk i wr => ∃ k : Nat, k ≤ n1 ∧ gk = n1 - k ∧ i = .int .i64 k ∧ Hid (Below w.heap.size w wr) ∧ Hid (∀ i, i < k → R i = true))
    case atStart => exact ⟨0, Nat.zero_le _, rfl, rfl, Lib.hid (Below.refl _ _), Lib.hid (fun i hi => absurd hi (by omega))⟩
    case round =>
      obtain ⟨k, hk, rfl, rfl, HBR, HALL⟩ := hrel
      by_cases hlt : k < n1
      · obtain ⟨g, o, rfl, hc1⟩ := H1.out (by omega)
        obtain ⟨g', o', rfl, hc2⟩ := H2.out (by omega)
        have r1 := range_at HBR.out hc1 hlt (O1.out k hlt).1
        have r2 := range_at HBR.out hc2 hlt (O2.out k hlt).1
        have IH1 := Lib.hid (show (Try.prog.info? 93).map (·.size) = some (C1 k).length from (by rw [(O1.out k hlt).1]; exact Try.riExpr))
        have IH2 := Lib.hid (show (Try.prog.info? 93).map (·.size) = some (C2 k).length from (by rw [(O2.out k hlt).1]; exact Try.riExpr))
        have SI1 := Lib.hid (show (Try.prog.info? 93).map (·.size) = some (C1 k).toArray.size from IH1.out)
        have SI2 := Lib.hid (show (Try.prog.info? 93).map (·.size) = some (C2 k).toArray.size from IH2.out)
        have SZ1 := Lib.hid (show (#[.int .i64 0, .int .i64 0, .string { data := #[] }, .int .i64 0, .slice none 0 0, .slice none 0 0, .slice none 0 0, .slice none 0 0] : Array Value).size = (C1 k).toArray.size from (O1.out k hlt).1.symm)
        have SZ2 := Lib.hid (show (#[.int .i64 0, .int .i64 0, .string { data := #[] }, .int .i64 0, .slice none 0 0, .slice none 0 0, .slice none 0 0, .slice none 0 0] : Array Value).size = (C2 k).toArray.size from (O2.out k hlt).1.symm)
        have rn : ((wr.alloc (.cells (C1 k).toArray 93)).alloc (.cells (C2 k).toArray 93)).rangeAt (wr.heap.size + 1) 0 (C2 k) := by
          have := range_new (wr.alloc (.cells (C1 k).toArray 93)) 93 (C2 k)
          rwa [World.size_alloc] at this
        have R1 := Lib.hid r1; have R2 := Lib.hid (range_on r2 (bl1 wr (.cells (C1 k).toArray 93))); have R3 := Lib.hid (range_on (range_new wr 93 (C1 k)) (bl1 _ (.cells (C2 k).toArray 93))); have R4 := Lib.hid rn
        have hcall := HR.out k hlt hlt
        have HC := Lib.hid hcall
        obtain ⟨r, hr⟩ : ∃ r, r = R k := ⟨_, rfl⟩
        rw [← hr] at HC
        have HRK := Lib.hid hr
        have hk1 : (k : Int) < (n1 : Int) := by omega
        have hz := HBR.out.size
        clear hc1 hc2 r1 r2 rn hcall hr
        go_wp2_with (first | ((with_reducible refine at_ld 21 ?_); refine wpList_load_mid rfl 93 (.tmp 20) rfl g (o + k * 8) rfl (C1 k) _ R1.out Try.underlying93 rfl IH1.out ?_) | ((with_reducible refine at_st 8 21 ?_); refine wpList_store_new rfl 93 (.tmp 8) (.tmp 21) rfl (wr.heap.size) (by simp) rfl (C1 k).toArray rfl #[.int .i64 0, .int .i64 0, .string { data := #[] }, .int .i64 0, .slice none 0 0, .slice none 0 0, .slice none 0 0, .slice none 0 0] SI1.out SZ1.out (O1.out k hlt).arr ?_) | ((with_reducible refine at_ld 25 ?_); refine wpList_load_mid rfl 93 (.tmp 24) rfl g' (o' + k * 8) rfl (C2 k) _ R2.out Try.underlying93 rfl IH2.out ?_) | ((with_reducible refine at_st 9 25 ?_); refine wpList_store_new rfl 93 (.tmp 9) (.tmp 25) rfl (wr.heap.size + 1) (by simp) rfl (C2 k).toArray rfl #[.int .i64 0, .int .i64 0, .string { data := #[] }, .int .i64 0, .slice none 0 0, .slice none 0 0, .slice none 0 0, .slice none 0 0] SI2.out SZ2.out (O2.out k hlt).arr ?_) | ((with_reducible refine at_ld 27 ?_); refine wpList_load_mid rfl 93 (.tmp 8) rfl wr.heap.size (0) rfl (C1 k) _ R3.out Try.underlying93 rfl IH1.out ?_) | ((with_reducible refine at_ld 28 ?_); refine wpList_load_mid rfl 93 (.tmp 9) rfl (wr.heap.size + 1) (0) rfl (C2 k) _ R4.out Try.underlying93 rfl IH2.out ?_))
        refine (HC.out _ (HBR.out.trans ((bl2 _ _ _).mono hz))).mono ?_
        rintro e w2 ⟨rfl, hb2⟩
        have HB2 := Lib.hid (HBR.out.trans (((bl_tr (bl2 _ _ _) hb2)).mono hz))
        clear hb2
        cases r with
        | false =>
          go_wp2_with fail
          go_ret
          exact ⟨ret_b (allB_false hlt HRK.out.symm).symm, HB2.out⟩
        | true =>
          go_wp2_with fail
          go_roundg (n1 - (k + 1))
          case measure => omega
          case rel => exact ⟨k + 1, by omega, rfl, by go_num, HB2, Lib.hid (fun i hi => by
            by_cases h : i < k
            · exact HALL.out i h
            · obtain rfl : i = k := by omega
              exact HRK.out.symm)⟩
      · obtain rfl : k = n1 := by omega
        go_wp2_with fail
        go_ret
        exact ⟨ret_b (allB_true.2 HALL.out).symm, HBR.out⟩
  · have hne2 : ((n1 : Int) != (n2 : Int)) = true := by rw [bne_iff_ne]; omega
    rw [eqB_ne hne]
    go_enter Try.func92, Try.ntmps92
    go_wp2_with fail
    go_ret
    exact ⟨rfl, Below.refl _ _⟩
set_option maxRecDepth 100000 in
theorem alikeExpr (C1 C2 : Nat → List Value) (A1 A2 : Option Addr) (n1 n2 c1 c2 : Nat) (R : Nat → Bool) (w : World) (hn1 : n1 ≤ maxLen) (h1 : SlAt (mem w) 8 A1 n1 C1) (h2 : SlAt (mem w) 8 A2 n2 C2)
    (l1 : ∀ i, i < n1 → Ok 8 (C1 i)) (l2 : ∀ i, i < n2 → Ok 8 (C2 i))
    (hR : ∀ i, i < n1 → i < n2 → ∀ W, Below w.heap.size w W → Calls Try.prog 37 #[.agg (C1 i).toArray, .agg (C2 i).toArray] W (RightV (R i) W)) :
    Calls Try.prog 71 #[.slice A1 n1 c1, .slice A2 n2 c2, .func (.func 37) #[] #[]] w (RightV (eqB n1 n2 R) w) := by
  have H := Lib.hid (eqfExpr C1 C2 A1 A2 n1 n2 c1 c2 R w hn1 h1 h2 l1 l2 hR)
  clear h1 h2 l1 l2 hR hn1
  go_enter Try.func71, Try.ntmps71
  go_wp2_with fail
  refine H.out.mono ?_
  rintro e w2 ⟨rfl, hb2⟩
  have HB2 := Lib.hid hb2
  clear hb2
  go_wp2_with fail
  go_ret
  exact ⟨rfl, HB2.out⟩

set_option maxRecDepth 100000 in
set_option maxHeartbeats 1000000 in
theorem eqfAlt (C1 C2 : Nat → List Value) (A1 A2 : Option Addr) (n1 n2 c1 c2 : Nat) (R : Nat → Bool) (w : World) (hn1 : n1 ≤ maxLen) (h1 : SlAt (mem w) 13 A1 n1 C1) (h2 : SlAt (mem w) 13 A2 n2 C2)
    (l1 : ∀ i, i < n1 → Ok 13 (C1 i)) (l2 : ∀ i, i < n2 → Ok 13 (C2 i))
    (hR : ∀ i, i < n1 → i < n2 → ∀ W, Below w.heap.size w W → Calls Try.prog 75 #[.agg (C1 i).toArray, .agg (C2 i).toArray] W (RightV (R i) W)) :
    Calls Try.prog 94 #[.slice A1 n1 c1, .slice A2 n2 c2, .func (.func 75) #[] #[]] w (RightV (eqB n1 n2 R) w) := by
  unfold maxLen at hn1
  have H1 := Lib.hid h1; have H2 := Lib.hid h2; have O1 := Lib.hid l1; have O2 := Lib.hid l2; have HR := Lib.hid hR
  clear h1 h2 l1 l2 hR
  by_cases hne : n1 = n2
  · subst hne
    rw [eqB_eq]
    go_enter Try.func94, Try.ntmps94
    go_wp2_with fail
    go_loopg [17] n1 (fun gk i wr => ∃ k : Nat, k ≤ n1 ∧ gk = n1 - k ∧ i = .int .i64 k ∧ Hid (Below w.heap.size w wr) ∧ Hid (∀ i, i < k → R i = true))
    case atStart => exact ⟨0, Nat.zero_le _, rfl, rfl, Lib.hid (Below.refl _ _), Lib.hid (fun i hi => absurd hi (by omega))⟩
    case round =>
      obtain ⟨k, hk, rfl, rfl, HBR, HALL⟩ := hrel
      by_cases hlt : k < n1
      · obtain ⟨g, o, rfl, hc1⟩ := H1.out (by omega)
        obtain ⟨g', o', rfl, hc2⟩ := H2.out (by omega)
        have r1 := range_at HBR.out hc1 hlt (O1.out k hlt).1
        have r2 := range_at HBR.out hc2 hlt (O2.out k hlt).1
        have IH1 := Lib.hid (show (Try.prog.info? 135).map (·.size) = some (C1 k).length from (by rw [(O1.out k hlt).1]; exact Try.riAlt))
        have IH2 := Lib.hid (show (Try.prog.info? 135).map (·.size) = some (C2 k).length from (by rw [(O2.out k hlt).1]; exact Try.riAlt))
        have SI1 := Lib.hid (show (Try.prog.info? 135).map (·.size) = some (C1 k).toArray.size from IH1.out)
        have SI2 := Lib.hid (show (Try.prog.info? 135).map (·.size) = some (C2 k).toArray.size from IH2.out)
        have SZ1 := Lib.hid (show (#[.int .i64 0, .int .i64 0, .string { data := #[] }, .int .i64 0, .slice none 0 0, .int .i64 0, .int .i64 0, .string { data := #[] }, .int .i64 0, .slice none 0 0, .slice none 0 0, .slice none 0 0, .slice none 0 0] : Array Value).size = (C1 k).toArray.size from (O1.out k hlt).1.symm)
        have SZ2 := Lib.hid (show (#[.int .i64 0, .int .i64 0, .string { data := #[] }, .int .i64 0, .slice none 0 0, .int .i64 0, .int .i64 0, .string { data := #[] }, .int .i64 0, .slice none 0 0, .slice none 0 0, .slice none 0 0, .slice none 0 0] : Array Value).size = (C2 k).toArray.size from (O2.out k hlt).1.symm)
        have rn : ((wr.alloc (.cells (C1 k).toArray 135)).alloc (.cells (C2 k).toArray 135)).rangeAt (wr.heap.size + 1) 0 (C2 k) := by
          have := range_new (wr.alloc (.cells (C1 k).toArray 135)) 135 (C2 k)
          rwa [World.size_alloc] at this
        have R1 := Lib.hid r1; have R2 := Lib.hid (range_on r2 (bl1 wr (.cells (C1 k).toArray 135))); have R3 := Lib.hid (range_on (range_new wr 135 (C1 k)) (bl1 _ (.cells (C2 k).toArray 135))); have R4 := Lib.hid rn
        have hcall := HR.out k hlt hlt
        have HC := Lib.hid hcall
        obtain ⟨r, hr⟩ : ∃ r, r = R k := ⟨_, rfl⟩
        rw [← hr] at HC
        have HRK := Lib.hid hr
        have hk1 : (k : Int) < (n1 : Int) := by omega
        have hz := HBR.out.size
        clear hc1 hc2 r1 r2 rn hcall hr
        go_wp2_with (first | ((with_reducible refine at_ld 21 ?_); refine wpList_load_mid rfl 135 (.tmp 20) rfl g (o + k * 13) rfl (C1 k) _ R1.out Try.underlying135 rfl IH1.out ?_) | ((with_reducible refine at_st 8 21 ?_); refine wpList_store_new rfl 135 (.tmp 8) (.tmp 21) rfl (wr.heap.size) (by simp) rfl (C1 k).toArray rfl #[.int .i64 0, .int .i64 0, .string { data := #[] }, .int .i64 0, .slice none 0 0, .int .i64 0, .int .i64 0, .string { data := #[] }, .int .i64 0, .slice none 0 0, .slice none 0 0, .slice none 0 0, .slice none 0 0] SI1.out SZ1.out (O1.out k hlt).arr ?_) | ((with_reducible refine at_ld 25 ?_); refine wpList_load_mid rfl 135 (.tmp 24) rfl g' (o' + k * 13) rfl (C2 k) _ R2.out Try.underlying135 rfl IH2.out ?_) | ((with_reducible refine at_st 9 25 ?_); refine wpList_store_new rfl 135 (.tmp 9) (.tmp 25) rfl (wr.heap.size + 1) (by simp) rfl (C2 k).toArray rfl #[.int .i64 0, .int .i64 0, .string { data := #[] }, .int .i64 0, .slice none 0 0, .int .i64 0, .int .i64 0, .string { data := #[] }, .int .i64 0, .slice none 0 0, .slice none 0 0, .slice none 0 0, .slice none 0 0] SI2.out SZ2.out (O2.out k hlt).arr ?_) | ((with_reducible refine at_ld 27 ?_); refine wpList_load_mid rfl 135 (.tmp 8) rfl wr.heap.size (0) rfl (C1 k) _ R3.out Try.underlying135 rfl IH1.out ?_) | ((with_reducible refine at_ld 28 ?_); refine wpList_load_mid rfl 135 (.tmp 9) rfl (wr.heap.size + 1) (0) rfl (C2 k) _ R4.out Try.underlying135 rfl IH2.out ?_))
        refine (HC.out _ (HBR.out.trans ((bl2 _ _ _).mono hz))).mono ?_
        rintro e w2 ⟨rfl, hb2⟩
        have HB2 := Lib.hid (HBR.out.trans (((bl_tr (bl2 _ _ _) hb2)).mono hz))
        clear hb2
        cases r with
        | false =>
          go_wp2_with fail
          go_ret
          exact ⟨ret_b (allB_false hlt HRK.out.symm).symm, HB2.out⟩
        | true =>
          go_wp2_with fail
          go_roundg (n1 - (k + 1))
          case measure => omega
          case rel => exact ⟨k + 1, by omega, rfl, by go_num, HB2, Lib.hid (fun i hi => by
            by_cases h : i < k
            · exact HALL.out i h
            · obtain rfl : i = k := by omega
              exact HRK.out.symm)⟩
      · obtain rfl : k = n1 := by omega
        go_wp2_with fail
        go_ret
        exact ⟨ret_b (allB_true.2 HALL.out).symm, HBR.out⟩
  · have hne2 : ((n1 : Int) != (n2 : Int)) = true := by rw [bne_iff_ne]; omega
    rw [eqB_ne hne]
    go_enter Try.func94, Try.ntmps94
    go_wp2_with fail
    go_ret
    exact ⟨rfl, Below.refl _ _⟩
set_option maxRecDepth 100000 in
theorem alikeAlt (C1 C2 : Nat → List Value) (A1 A2 : Option Addr) (n1 n2 c1 c2 : Nat) (R : Nat → Bool) (w : World) (hn1 : n1 ≤ maxLen) (h1 : SlAt (mem w) 13 A1 n1 C1) (h2 : SlAt (mem w) 13 A2 n2 C2)
    (l1 : ∀ i, i < n1 → Ok 13 (C1 i)) (l2 : ∀ i, i < n2 → Ok 13 (C2 i))
    (hR : ∀ i, i < n1 → i < n2 → ∀ W, Below w.heap.size w W → Calls Try.prog 75 #[.agg (C1 i).toArray, .agg (C2 i).toArray] W (RightV (R i) W)) :
    Calls Try.prog 74 #[.slice A1 n1 c1, .slice A2 n2 c2, .func (.func 75) #[] #[]] w (RightV (eqB n1 n2 R) w) := by
  have H := Lib.hid (eqfAlt C1 C2 A1 A2 n1 n2 c1 c2 R w hn1 h1 h2 l1 l2 hR)
  clear h1 h2 l1 l2 hR hn1
  go_enter Try.func74, Try.ntmps74
  go_wp2_with fail
  refine H.out.mono ?_
  rintro e w2 ⟨rfl, hb2⟩
  have HB2 := Lib.hid hb2
  clear hb2
  go_wp2_with fail
  go_ret
  exact ⟨rfl, HB2.out⟩

set_option maxRecDepth 100000 in
set_option maxHeartbeats 1000000 in
theorem eqfDecl (C1 C2 : Nat → List Value) (A1 A2 : Option Addr) (n1 n2 c1 c2 : Nat) (R : Nat → Bool) (w : World) (hn1 : n1 ≤ maxLen) (h1 : SlAt (mem w) 18 A1 n1 C1) (h2 : SlAt (mem w) 18 A2 n2 C2)
    (l1 : ∀ i, i < n1 → Ok 18 (C1 i)) (l2 : ∀ i, i < n2 → Ok 18 (C2 i))
    (hR : ∀ i, i < n1 → i < n2 → ∀ W, Below w.heap.size w W → Calls Try.prog 96 #[.agg (C1 i).toArray, .agg (C2 i).toArray] W (RightV (R i) W)) :
    Calls Try.prog 114 #[.slice A1 n1 c1, .slice A2 n2 c2, .func (.func 96) #[] #[]] w (RightV (eqB n1 n2 R) w) := by
  unfold maxLen at hn1
  have H1 := Lib.hid h1; have H2 := Lib.hid h2; have O1 := Lib.hid l1; have O2 := Lib.hid l2; have HR := Lib.hid hR
  clear h1 h2 l1 l2 hR
  by_cases hne : n1 = n2
  · subst hne
    rw [eqB_eq]
    go_enter Try.func114, Try.ntmps114
    go_wp2_with fail
    go_loopg [17] n1 (fun gk i wr => ∃ k : Nat, k ≤ n1 ∧ gk = n1 - k ∧ i = .int .i64 k ∧ Hid (Below w.heap.size w wr) ∧ Hid (∀ i, i < k → R i = true))
    case atStart => exact ⟨0, Nat.zero_le _, rfl, rfl, Lib.hid (Below.refl _ _), Lib.hid (fun i hi => absurd hi (by omega))⟩
    case round =>
      obtain ⟨k, hk, rfl, rfl, HBR, HALL⟩ := hrel
      by_cases hlt : k < n1
      · obtain ⟨g, o, rfl, hc1⟩ := H1.out (by omega)
        obtain ⟨g', o', rfl, hc2⟩ := H2.out (by omega)
        have r1 := range_at HBR.out hc1 hlt (O1.out k hlt).1
        have r2 := range_at HBR.out hc2 hlt (O2.out k hlt).1
        have IH1 := Lib.hid (show (Try.prog.info? 171).map (·.size) = some (C1 k).length from (by rw [(O1.out k hlt).1]; exact Try.riDecl))
        have IH2 := Lib.hid (show (Try.prog.info? 171).map (·.size) = some (C2 k).length from (by rw [(O2.out k hlt).1]; exact Try.riDecl))
        have SI1 := Lib.hid (show (Try.prog.info? 171).map (·.size) = some (C1 k).toArray.size from IH1.out)
        have SI2 := Lib.hid (show (Try.prog.info? 171).map (·.size) = some (C2 k).toArray.size from IH2.out)
        have SZ1 := Lib.hid (show (#[.int .i64 0, .int .i64 0, .string { data := #[] }, .slice none 0 0, .slice none 0 0, .int .i64 0, .int .i64 0, .string { data := #[] }, .slice none 0 0, .slice none 0 0, .int .i64 0, .int .i64 0, .string { data := #[] }, .int .i64 0, .slice none 0 0, .slice none 0 0, .slice none 0 0, .slice none 0 0] : Array Value).size = (C1 k).toArray.size from (O1.out k hlt).1.symm)
        have SZ2 := Lib.hid (show (#[.int .i64 0, .int .i64 0, .string { data := #[] }, .slice none 0 0, .slice none 0 0, .int .i64 0, .int .i64 0, .string { data := #[] }, .slice none 0 0, .slice none 0 0, .int .i64 0, .int .i64 0, .string { data := #[] }, .int .i64 0, .slice none 0 0, .slice none 0 0, .slice none 0 0, .slice none 0 0] : Array Value).size = (C2 k).toArray.size from (O2.out k hlt).1.symm)
        have rn : ((wr.alloc (.cells (C1 k).toArray 171)).alloc (.cells (C2 k).toArray 171)).rangeAt (wr.heap.size + 1) 0 (C2 k) := by
          have := range_new (wr.alloc (.cells (C1 k).toArray 171)) 171 (C2 k)
          rwa [World.size_alloc] at this
        have R1 := Lib.hid r1; have R2 := Lib.hid (range_on r2 (bl1 wr (.cells (C1 k).toArray 171))); have R3 := Lib.hid (range_on (range_new wr 171 (C1 k)) (bl1 _ (.cells (C2 k).toArray 171))); have R4 := Lib.hid rn
        have hcall := HR.out k hlt hlt
        have HC := Lib.hid hcall
        obtain ⟨r, hr⟩ : ∃ r, r = R k := ⟨_, rfl⟩
        rw [← hr] at HC
        have HRK := Lib.hid hr
        have hk1 : (k : Int) < (n1 : Int) := by omega
        have hz := HBR.out.size
        clear hc1 hc2 r1 r2 rn hcall hr
        go_wp2_with (first | ((with_reducible refine at_ld 21 ?_); refine wpList_load_mid rfl 171 (.tmp 20) rfl g (o + k * 18) rfl (C1 k) _ R1.out Try.underlying171 rfl IH1.out ?_) | ((with_reducible refine at_st 8 21 ?_); refine wpList_store_new rfl 171 (.tmp 8) (.tmp 21) rfl (wr.heap.size) (by simp) rfl (C1 k).toArray rfl #[.int .i64 0, .int .i64 0, .string { data := #[] }, .slice none 0 0, .slice none 0 0, .int .i64 0, .int .i64 0, .string { data := #[] }, .slice none 0 0, .slice none 0 0, .int .i64 0, .int .i64 0, .string { data := #[] }, .int .i64 0, .slice none 0 0, .slice none 0 0, .slice none 0 0, .slice none 0 0] SI1.out SZ1.out (O1.out k hlt).arr ?_) | ((with_reducible refine at_ld 25 ?_); refine wpList_load_mid rfl 171 (.tmp 24) rfl g' (o' + k * 18) rfl (C2 k) _ R2.out Try.underlying171 rfl IH2.out ?_) | ((with_reducible refine at_st 9 25 ?_); refine wpList_store_new rfl 171 (.tmp 9) (.tmp 25) rfl (wr.heap.size + 1) (by simp) rfl (C2 k).toArray rfl #[.int .i64 0, .int .i64 0, .string { data := #[] }, .slice none 0 0, .slice none 0 0, .int .i64 0, .int .i64 0, .string { data := #[] }, .slice none 0 0, .slice none 0 0, .int .i64 0, .int .i64 0, .string { data := #[] }, .int .i64 0, .slice none 0 0, .slice none 0 0, .slice none 0 0, .slice none 0 0] SI2.out SZ2.out (O2.out k hlt).arr ?_) | ((with_reducible refine at_ld 27 ?_); refine wpList_load_mid rfl 171 (.tmp 8) rfl wr.heap.size (0) rfl (C1 k) _ R3.out Try.underlying171 rfl IH1.out ?_) | ((with_reducible refine at_ld 28 ?_); refine wpList_load_mid rfl 171 (.tmp 9) rfl (wr.heap.size + 1) (0) rfl (C2 k) _ R4.out Try.underlying171 rfl IH2.out ?_))
        refine (HC.out _ (HBR.out.trans ((bl2 _ _ _).mono hz))).mono ?_
        rintro e w2 ⟨rfl, hb2⟩
        have HB2 := Lib.hid (HBR.out.trans (((bl_tr (bl2 _ _ _) hb2)).mono hz))
        clear hb2
        cases r with
        | false =>
          go_wp2_with fail
          go_ret
          exact ⟨ret_b (allB_false hlt HRK.out.symm).symm, HB2.out⟩
        | true =>
          go_wp2_with fail
          go_roundg (n1 - (k + 1))
          case measure => omega
          case rel => exact ⟨k + 1, by omega, rfl, by go_num, HB2, Lib.hid (fun i hi => by
            by_cases h : i < k
            · exact HALL.out i h
            · obtain rfl : i = k := by omega
              exact HRK.out.symm)⟩
      · obtain rfl : k = n1 := by omega
        go_wp2_with fail
        go_ret
        exact ⟨ret_b (allB_true.2 HALL.out).symm, HBR.out⟩
  · have hne2 : ((n1 : Int) != (n2 : Int)) = true := by rw [bne_iff_ne]; omega
    rw [eqB_ne hne]
    go_enter Try.func114, Try.ntmps114
    go_wp2_with fail
    go_ret
    exact ⟨rfl, Below.refl _ _⟩
set_option maxRecDepth 100000 in
theorem alikeDecl (C1 C2 : Nat → List Value) (A1 A2 : Option Addr) (n1 n2 c1 c2 : Nat) (R : Nat → Bool) (w : World) (hn1 : n1 ≤ maxLen) (h1 : SlAt (mem w) 18 A1 n1 C1) (h2 : SlAt (mem w) 18 A2 n2 C2)
    (l1 : ∀ i, i < n1 → Ok 18 (C1 i)) (l2 : ∀ i, i < n2 → Ok 18 (C2 i))
    (hR : ∀ i, i < n1 → i < n2 → ∀ W, Below w.heap.size w W → Calls Try.prog 96 #[.agg (C1 i).toArray, .agg (C2 i).toArray] W (RightV (R i) W)) :
    Calls Try.prog 95 #[.slice A1 n1 c1, .slice A2 n2 c2, .func (.func 96) #[] #[]] w (RightV (eqB n1 n2 R) w) := by
  have H := Lib.hid (eqfDecl C1 C2 A1 A2 n1 n2 c1 c2 R w hn1 h1 h2 l1 l2 hR)
  clear h1 h2 l1 l2 hR hn1
  go_enter Try.func95, Try.ntmps95
  go_wp2_with fail
  refine H.out.mono ?_
  rintro e w2 ⟨rfl, hb2⟩
  have HB2 := Lib.hid hb2
  clear hb2
  go_wp2_with fail
  go_ret
  exact ⟨rfl, HB2.out⟩

set_option maxRecDepth 100000 in
set_option maxHeartbeats 1000000 in
theorem eqfCons (C1 C2 : Nat → List Value) (A1 A2 : Option Addr) (n1 n2 c1 c2 : Nat) (R : Nat → Bool) (w : World) (hn1 : n1 ≤ maxLen) (h1 : SlAt (mem w) 3 A1 n1 C1) (h2 : SlAt (mem w) 3 A2 n2 C2)
    (l1 : ∀ i, i < n1 → Ok 3 (C1 i)) (l2 : ∀ i, i < n2 → Ok 3 (C2 i))
    (hR : ∀ i, i < n1 → i < n2 → ∀ W, Below w.heap.size w W → Calls Try.prog 117 #[.agg (C1 i).toArray, .agg (C2 i).toArray] W (RightV (R i) W)) :
    Calls Try.prog 132 #[.slice A1 n1 c1, .slice A2 n2 c2, .func (.func 117) #[] #[]] w (RightV (eqB n1 n2 R) w) := by
  unfold maxLen at hn1
  have H1 := Lib.hid h1; have H2 := Lib.hid h2; have O1 := Lib.hid l1; have O2 := Lib.hid l2; have HR := Lib.hid hR
  clear h1 h2 l1 l2 hR
  by_cases hne : n1 = n2
  · subst hne
    rw [eqB_eq]
    go_enter Try.func132, Try.ntmps132
    go_wp2_with fail
    go_loopg [17] n1 (fun gk i wr => ∃ k : Nat, k ≤ n1 ∧ gk = n1 - k ∧ i = .int .i64 k ∧ Hid (Below w.heap.size w wr) ∧ Hid (∀ i, i < k → R i = true))
    case atStart => exact ⟨0, Nat.zero_le _, rfl, rfl, Lib.hid (Below.refl _ _), Lib.hid (fun i hi => absurd hi (by omega))⟩
    case round =>
      obtain ⟨k, hk, rfl, rfl, HBR, HALL⟩ := hrel
      by_cases hlt : k < n1
      · obtain ⟨g, o, rfl, hc1⟩ := H1.out (by omega)
        obtain ⟨g', o', rfl, hc2⟩ := H2.out (by omega)
        have r1 := range_at HBR.out hc1 hlt (O1.out k hlt).1
        have r2 := range_at HBR.out hc2 hlt (O2.out k hlt).1
        have IH1 := Lib.hid (show (Try.prog.info? 176).map (·.size) = some (C1 k).length from (by rw [(O1.out k hlt).1]; exact Try.riCons))
        have IH2 := Lib.hid (show (Try.prog.info? 176).map (·.size) = some (C2 k).length from (by rw [(O2.out k hlt).1]; exact Try.riCons))
        have SI1 := Lib.hid (show (Try.prog.info? 176).map (·.size) = some (C1 k).toArray.size from IH1.out)
        have SI2 := Lib.hid (show (Try.prog.info? 176).map (·.size) = some (C2 k).toArray.size from IH2.out)
        have SZ1 := Lib.hid (show (#[.int .i64 0, .string { data := #[] }, .slice none 0 0] : Array Value).size = (C1 k).toArray.size from (O1.out k hlt).1.symm)
        have SZ2 := Lib.hid (show (#[.int .i64 0, .string { data := #[] }, .slice none 0 0] : Array Value).size = (C2 k).toArray.size from (O2.out k hlt).1.symm)
        have rn : ((wr.alloc (.cells (C1 k).toArray 176)).alloc (.cells (C2 k).toArray 176)).rangeAt (wr.heap.size + 1) 0 (C2 k) := by
          have := range_new (wr.alloc (.cells (C1 k).toArray 176)) 176 (C2 k)
          rwa [World.size_alloc] at this
        have R1 := Lib.hid r1; have R2 := Lib.hid (range_on r2 (bl1 wr (.cells (C1 k).toArray 176))); have R3 := Lib.hid (range_on (range_new wr 176 (C1 k)) (bl1 _ (.cells (C2 k).toArray 176))); have R4 := Lib.hid rn
        have hcall := HR.out k hlt hlt
        have HC := Lib.hid hcall
        obtain ⟨r, hr⟩ : ∃ r, r = R k := ⟨_, rfl⟩
        rw [← hr] at HC
        have HRK := Lib.hid hr
        have hk1 : (k : Int) < (n1 : Int) := by omega
        have hz := HBR.out.size
        clear hc1 hc2 r1 r2 rn hcall hr
        go_wp2_with (first | ((with_reducible refine at_ld 21 ?_); refine wpList_load_mid rfl 176 (.tmp 20) rfl g (o + k * 3) rfl (C1 k) _ R1.out Try.underlying176 rfl IH1.out ?_) | ((with_reducible refine at_st 8 21 ?_); refine wpList_store_new rfl 176 (.tmp 8) (.tmp 21) rfl (wr.heap.size) (by simp) rfl (C1 k).toArray rfl #[.int .i64 0, .string { data := #[] }, .slice none 0 0] SI1.out SZ1.out (O1.out k hlt).arr ?_) | ((with_reducible refine at_ld 25 ?_); refine wpList_load_mid rfl 176 (.tmp 24) rfl g' (o' + k * 3) rfl (C2 k) _ R2.out Try.underlying176 rfl IH2.out ?_) | ((with_reducible refine at_st 9 25 ?_); refine wpList_store_new rfl 176 (.tmp 9) (.tmp 25) rfl (wr.heap.size + 1) (by simp) rfl (C2 k).toArray rfl #[.int .i64 0, .string { data := #[] }, .slice none 0 0] SI2.out SZ2.out (O2.out k hlt).arr ?_) | ((with_reducible refine at_ld 27 ?_); refine wpList_load_mid rfl 176 (.tmp 8) rfl wr.heap.size (0) rfl (C1 k) _ R3.out Try.underlying176 rfl IH1.out ?_) | ((with_reducible refine at_ld 28 ?_); refine wpList_load_mid rfl 176 (.tmp 9) rfl (wr.heap.size + 1) (0) rfl (C2 k) _ R4.out Try.underlying176 rfl IH2.out ?_))
        refine (HC.out _ (HBR.out.trans ((bl2 _ _ _).mono hz))).mono ?_
        rintro e w2 ⟨rfl, hb2⟩
        have HB2 := Lib.hid (HBR.out.trans (((bl_tr (bl2 _ _ _) hb2)).mono hz))
        clear hb2
        cases r with
        | false =>
          go_wp2_with fail
          go_ret
          exact ⟨ret_b (allB_false hlt HRK.out.symm).symm, HB2.out⟩
        | true =>
          go_wp2_with fail
          go_roundg (n1 - (k + 1))
          case measure => omega
          case rel => exact ⟨k + 1, by omega, rfl, by go_num, HB2, Lib.hid (fun i hi => by
            by_cases h : i < k
            · exact HALL.out i h
            · obtain rfl : i = k := by omega
              exact HRK.out.symm)⟩
      · obtain rfl : k = n1 := by omega
        go_wp2_with fail
        go_ret
        exact ⟨ret_b (allB_true.2 HALL.out).symm, HBR.out⟩
  · have hne2 : ((n1 : Int) != (n2 : Int)) = true := by rw [bne_iff_ne]; omega
    rw [eqB_ne hne]
    go_enter Try.func132, Try.ntmps132
    go_wp2_with fail
    go_ret
    exact ⟨rfl, Below.refl _ _⟩
set_option maxRecDepth 100000 in
theorem alikeCons (C1 C2 : Nat → List Value) (A1 A2 : Option Addr) (n1 n2 c1 c2 : Nat) (R : Nat → Bool) (w : World) (hn1 : n1 ≤ maxLen) (h1 : SlAt (mem w) 3 A1 n1 C1) (h2 : SlAt (mem w) 3 A2 n2 C2)
    (l1 : ∀ i, i < n1 → Ok 3 (C1 i)) (l2 : ∀ i, i < n2 → Ok 3 (C2 i))
    (hR : ∀ i, i < n1 → i < n2 → ∀ W, Below w.heap.size w W → Calls Try.prog 117 #[.agg (C1 i).toArray, .agg (C2 i).toArray] W (RightV (R i) W)) :
    Calls Try.prog 116 #[.slice A1 n1 c1, .slice A2 n2 c2, .func (.func 117) #[] #[]] w (RightV (eqB n1 n2 R) w) := by
  have H := Lib.hid (eqfCons C1 C2 A1 A2 n1 n2 c1 c2 R w hn1 h1 h2 l1 l2 hR)
  clear h1 h2 l1 l2 hR hn1
  go_enter Try.func116, Try.ntmps116
  go_wp2_with fail
  refine H.out.mono ?_
  rintro e w2 ⟨rfl, hb2⟩
  have HB2 := Lib.hid hb2
  clear hb2
  go_wp2_with fail
  go_ret
  exact ⟨rfl, HB2.out⟩
end Go.Proofs.Ytfeghobfkgimfaa
