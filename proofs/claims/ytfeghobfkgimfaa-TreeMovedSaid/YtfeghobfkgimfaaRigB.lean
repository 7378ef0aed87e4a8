/- What constructors may be; is nothing there twice? -/
import Derived.Test.YtfeghobfkgimfaaRigA
import Derived.Maps.OwnSet
import Derived.Maps.OwnOps
import Derived.StringKeys
import Derived.Carry
namespace Go.Proofs.Ytfeghobfkgimfaa
set_option linter.unusedSimpArgs false
set_option linter.unusedVariables false
open Go.RowKit Go.Shelf Go.Maps

theorem lookup_bool {H : Type} {P : Program} {k e t : TypeId} {w : World} {b n : Nat} {D : DataW H} (h : w.ownsMap P k (plainElem P e) b n D) (K : Keyed P k) (ht : P.underlying t = some (.map k e)) (he : P.underlying e = some .bool)
    (hz : (zeroValue e).run P w = .ok (.bool false) w) {key : Value} {kl : Lit} (hkey : keyOf P k key = some kl) : ∃ c, (Instr.lookup t (.map (some b)) key false).run P w = .ok (.bool c) w := by
  obtain ⟨v, ps, hrun, hv⟩ := h.lookup K ht hz (plainElem_bool he false) hkey
  have : ∃ c, v = .bool c := by
    unfold plainElem at hv
    rw [he] at hv
    cases v <;> simp at hv
    exact ⟨_, rfl⟩
  obtain ⟨c, rfl⟩ := this
  exact ⟨c, hrun⟩
theorem wpList_lookup_own_bool {H : Type} {P : Program} (w : World) {ops : Array Oper} {rest : List Oper} {o : Oper} {a : Act} {Q : Exit → Act → World → Prop}
    (hg : o.guard = none) (m x : Operand) (t : TypeId) (hop : o.op = Op.lookup t m x false)
    (k e : TypeId) (K : Keyed P k) (ht : P.underlying t = some (.map k e)) (he : P.underlying e = some .bool) (hz : (zeroValue e).run P w = .ok (.bool false) w) (b n : Nat) (D : DataW H)
    (hm : a.eval m = .map (some b)) (hown : w.ownsMap P k (plainElem P e) b n D) (key : Value) (kl : Lit) (hx : a.eval x = key) (hkey : keyOf P k key = some kl)
    (hK : ∀ c : Bool, wpList P ops Q rest (a.put o.dst (.bool c)) w) : wpList P ops Q (o :: rest) a w := by
  refine wpList_plain hg fun K' hK' => ?_
  obtain ⟨c, hrun⟩ := lookup_bool hown K ht he hz hkey
  unfold Oper.wp
  simp [execOp, hop, hm, hx, hrun, Result.andThen]
  exact hK' _ _ (hK c)

theorem Try.keyS : Keyed Try.prog 9 := string_keyed Try.underlying9
theorem Try.zeroB (w : World) : (zeroValue 4).run Try.prog w = .ok (.bool false) w := by kernel_rfl
def SomeB (w : World) (e : Ending) (w' : World) : Prop := ∃ r, RightV r w e w'
set_option maxRecDepth 100000 in
set_option maxHeartbeats 4000000 in
theorem once_any (vars : List ByteArray) (v : Value) (w : World) (hv : StrsV (mem w) vars v) (hlen : vars.length ≤ 140737488355328) (hs : ∀ s ∈ vars, s.size ≤ maxLen) :
    Calls Try.prog 140 #[v] w (SomeB w) := by
  obtain ⟨A, c, rfl, hc, hA⟩ := hv
  have HA := Lib.hid hA; have HS := Lib.hid hs
  clear hA hs hc
  obtain ⟨n, hn⟩ : ∃ n, n = vars.length := ⟨_, rfl⟩
  rw [← hn] at HA hlen ⊢
  have HN := Lib.hid hn
  clear hn
  have hmm := @run_makeMap Try.prog
  go_enter Try.func140, Try.ntmps140
  go_wp2_with fail
  clear hmm
  go_loopg [9] n (fun gk i wr => ∃ (j : Nat), j ≤ n ∧ gk = n - j ∧ i = .int .i64 j ∧ Hid (Below w.heap.size w wr) ∧ Hid (∃ D : DataW Unit, wr.ownsMap Try.prog 9 (plainElem Try.prog 4) w.heap.size j D))
  case atStart => exact ⟨0, Nat.zero_le _, rfl, rfl, Lib.hid (bl1 w _), Lib.hid ⟨_, World.ownsMap_made _ _ _ _⟩⟩
  case round =>
    obtain ⟨j, hj, rfl, rfl, HBR, HM⟩ := hrel
    by_cases hlt : j < n
    · obtain ⟨D, hown⟩ := HM.out
      clear HM
      obtain ⟨g, o, rfl, hc1⟩ := HA.out (by omega)
      have hjl : j < vars.length := by rw [← HN.out]; exact hlt
      have h0 := hc1 j hlt 0 (by omega)
      simp only [mem, Nat.mul_one, Nat.add_zero, List.getElem?_cons_zero] at h0
      have h1 : wr.cell? ⟨g, o + j, none⟩ = some (.string (vars.getD j ByteArray.empty)) := (HBR.out.cell (p := ⟨g, o + j, none⟩) (cell_lt h0)).trans h0
      have hsz : (vars.getD j ByteArray.empty).size ≤ maxLen := by
        have : vars.getD j ByteArray.empty = vars[j] := by simp [hjl]
        rw [this]; exact HS.out _ (List.getElem_mem hjl)
      obtain ⟨s, hs⟩ : ∃ s, s = vars.getD j ByteArray.empty := ⟨_, rfl⟩
      rw [← hs] at h1 hsz
      have HKEY := Lib.hid (WideMaps.keyOf_string_mk (P := Try.prog) (k := 9) Try.underlying9 hsz)
      have HOWN := Lib.hid hown
      have hj1 : (j : Int) < (n : Int) := by omega
      have hj0 : (0 : Int) ≤ (j : Int) := by omega
      clear hs h0 hc1 hown hsz
      go_wp2_with (first | (at_lookup; refine wpList_lookup_own_bool _ rfl _ _ 219 rfl 9 4 Try.keyS Try.underlying219 Try.underlying4 (Try.zeroB _) w.heap.size j _ rfl HOWN.out _ _ rfl HKEY.out ?_; intro c9) | (at_mapUpdate; refine wpList_mapUpdate_own _ rfl _ _ _ 219 rfl 9 4 Try.keyS Try.underlying219 _ w.heap.size j _ rfl HOWN.out (by unfold maxLen; omega) _ _ _ rfl rfl HKEY.out _ [] (plainElem_bool Try.underlying4 true) ?_; intro w1 hown1 hgrow1; have HO1 := Lib.hid hown1; have HG1 := Lib.hid hgrow1; clear hown1 hgrow1))
      · go_ret
        exact ⟨false, rfl, HBR.out⟩
      · go_roundg (n - (j + 1))
        case measure => omega
        case rel => exact ⟨j + 1, by omega, rfl, by go_num, Lib.hid (HBR.out.grown HG1.out HBR.out.size (fun k hk => by cases hk; exact Nat.le_refl _)), Lib.hid ⟨_, HO1.out⟩⟩
    · obtain rfl : j = n := by omega
      go_wp2_with fail
      go_ret
      exact ⟨true, rfl, HBR.out⟩

/-- A constructor. -/
def coB (c : Co) : Bool := highB c.name && decide ((c.args.length : Int) ≤ 16) && rTys c.args 400
theorem everyTy (l : List Ty) (v : Value) (w : World) (h : TysV (mem w) l v) : Calls Try.prog 155 #[v, .func (.func 142) #[] #[]] w (RightV (rTys l 400) w) := by
  obtain ⟨A, c, C, rfl, hc, hA, hC⟩ := h
  have h1 := every_Type C A l.length c (fun i => if h : i < l.length then rTy l[i] 400 else true) 142 #[] w enters_RightType (le_of hc) hA (fun i hi => (hC i hi).ok) (fun i hi W hW => by
    have h := RightType_any l[i] (C i) W ((hC i hi).mono (mem_below hW))
    rw [dif_pos hi]
    simpa using h)
  rw [allB_list l (fun t => rTy t 400) _ (fun i hi => dif_pos hi), ← rTys_all] at h1
  exact h1
theorem everyPt (l : List Pt) (v : Value) (w : World) (h : PtsV (mem w) l v) : Calls Try.prog 98 #[v, .func (.func 99) #[] #[]] w (RightV (rPts l 400) w) := by
  obtain ⟨A, c, C, rfl, hc, hA, hC⟩ := h
  have h1 := every_Pat C A l.length c (fun i => if h : i < l.length then rPt l[i] 400 else true) 99 #[] w enters_RightPat (le_of hc) hA (fun i hi => (hC i hi).ok) (fun i hi W hW => by
    have h := RightPat_any l[i] (C i) W ((hC i hi).mono (mem_below hW))
    rw [dif_pos hi]
    simpa using h)
  rw [allB_list l (fun t => rPt t 400) _ (fun i hi => dif_pos hi), ← rPts_all] at h1
  exact h1
set_option maxRecDepth 100000 in
set_option maxHeartbeats 4000000 in
theorem co_any (D : Co) (cs : List Value) (w : World) (hs : D.name.size ≤ maxLen) (hD : CoC (mem w) D cs) : Calls Try.prog 139 #[.agg cs.toArray] w (RightV (coB D) w) := by
  obtain ⟨at_, s, l⟩ := D
  obtain ⟨v, rfl, hv⟩ := hD
  have hev := fun (W : World) (hW : Below w.heap.size w W) => everyTy l v W (hv.mono (mem_below hW))
  have HS : Hid (s.size ≤ maxLen) := Lib.hid hs
  have HEV := Lib.hid hev
  obtain ⟨A, c, C, rfl, _⟩ := hv
  clear hev hs
  obtain ⟨n, hn⟩ : ∃ n, n = l.length := ⟨_, rfl⟩
  have HDEF : Hid (coB ⟨at_, s, l⟩ = (highB s && decide ((n : Int) ≤ 16) && rTys l 400)) := Lib.hid (by rw [coB, hn])
  rw [← hn] at HEV ⊢
  clear hn
  have hk : Blk (w.alloc (.cells #[.int .i64 at_, .string s, .slice A n c] 176)) w.heap.size 176 #[.int .i64 at_, .string s, .slice A n c] := bk_new _ _ _ _ rfl
  have HK := Lib.hid hk
  clear hk
  go_enter Try.func139, Try.ntmps139
  go_wp2_with fail
  refine (high_any s _ HS.out).mono ?_
  rintro e w2 ⟨rfl, hb2⟩
  have HB2 : Hid (Below w.heap.size w w2) := Lib.hid (bl_tr (bl1 w _) hb2)
  have d2 : w2.cell? ⟨w.heap.size, 2, none⟩ = some (.slice A n c) := (cell_of_row _ _ 2 _ _ _ (bk_below HK.out hb2)).trans rfl
  clear hb2
  cases h1 : highB s with
  | false =>
    go_wp2_with fail
    go_ret
    exact ⟨ret_b (by rw [HDEF.out, h1]; simp), HB2.out⟩
  | true =>
    by_cases h2 : (n : Int) ≤ 16
    · go_wp2_with fail
      refine (HEV.out _ HB2.out).mono ?_
      rintro e w3 ⟨rfl, hb3⟩
      have HB3 := Lib.hid (bl_tr HB2.out hb3)
      clear hb3
      go_wp2_with fail
      go_ret
      exact ⟨ret_b (by rw [HDEF.out, h1]; simp [h2]), HB3.out⟩
    · have h2b : decide ((n : Int) ≤ 16) = false := by simp only [h2, decide_false]
      have h2c : 16 < (n : Int) := by omega
      go_wp2_with fail
      go_ret
      exact ⟨ret_b (by rw [HDEF.out, h1, h2b]; simp), HB2.out⟩
theorem enters_rightCons : Enters Try.prog 139 := enters_any Try.func139 (by kernel_rfl) (by kernel_rfl)
theorem enters_word : Enters Try.prog 106 := enters_any Try.func106 (by kernel_rfl) (by kernel_rfl)
theorem everyCo (l : List Co) (v : Value) (w : World) (hs : ∀ c ∈ l, c.name.size ≤ maxLen) (h : CosV (mem w) l v) : Calls Try.prog 138 #[v, .func (.func 139) #[] #[]] w (RightV (l.all coB) w) := by
  obtain ⟨A, c, C, rfl, hc, hA, hC⟩ := h
  have h1 := every_Cons C A l.length c (fun i => if h : i < l.length then coB l[i] else true) 139 #[] w enters_rightCons (le_of hc) hA (fun i hi => (hC i hi).ok) (fun i hi W hW => by
    have h := co_any l[i] (C i) W (hs _ (List.getElem_mem hi)) ((hC i hi).mono (mem_below hW))
    rw [dif_pos hi]
    simpa using h)
  rw [allB_list l coB _ (fun i hi => dif_pos hi)] at h1
  exact h1
theorem everyStr (l : List ByteArray) (v : Value) (w : World) (hs : ∀ s ∈ l, s.size ≤ maxLen) (h : StrsV (mem w) l v) : Calls Try.prog 141 #[v, .func (.func 106) #[] #[]] w (RightV (l.all wordB) w) := by
  obtain ⟨A, c, rfl, hc, hA⟩ := h
  have hg : ∀ i (hi : i < l.length), l.getD i ByteArray.empty = l[i] := fun i hi => by simp [hi]
  have h1 := every_string (fun i => l.getD i ByteArray.empty) A l.length c (fun i => if h : i < l.length then wordB l[i] else true) 106 #[] w enters_word (le_of hc) hA (fun i hi W hW => by
    have h := word_any l[i] W (hs _ (List.getElem_mem hi))
    rw [dif_pos hi, hg i hi]
    simpa using h)
  rw [allB_list l wordB _ (fun i hi => dif_pos hi)] at h1
  exact h1
end Go.Proofs.Ytfeghobfkgimfaa
