/- What an expression is made of: inner. -/
import Derived.Test.YtfeghobfkgimfaaOwnR
import Derived.Lib.SliceRun
namespace Go.Proofs.Ytfeghobfkgimfaa
set_option linter.unusedSimpArgs false
set_option linter.unusedVariables false
open Go.RowKit Go.Shelf

def De.kind : De → Int
  | .mk k _ _ _ _ _ _ _ => k
def De.body : De → Ex
  | .mk _ _ _ _ _ _ _ b => b
/-- What an expression is made of. -/
def inn : Ex → List Ex
  | .mk _ _ _ _ args _ alts decls => args ++ alts.map Al.body ++ (decls.filter (fun d => decide (d.kind = 3))).map De.body
theorem own_below {w w2 : World} {base : Nat} {e : TypeId} {size : Nat} {v : Value} {n : Nat} {xs : List Value} (h : w.ownsRow base e size v n xs) (hb : Below w.heap.size w w2) : w2.ownsRow base e size v n xs := by
  refine ⟨h.1, ?_⟩
  rcases h.2 with h0 | ⟨g, cap, cur, hv, hbg, hg, r⟩
  · exact .inl h0
  · exact .inr ⟨g, cap, cur, hv, hbg, (hb.block g (Array.getElem?_eq_some_iff.1 hg).1).trans hg, r⟩
/-- A row of expressions that the call owns; what they are made of lies in w. -/
theorem len4 {cs : List Value} (h : cs.length = 4) : ∃ a b c d, cs = [a, b, c, d] := by
  match cs, h with
  | [a, b, c, d], _ => exact ⟨_, _, _, _, rfl⟩
theorem len5 {cs : List Value} (h : cs.length = 5) : ∃ a b c d e, cs = [a, b, c, d, e] := by
  match cs, h with
  | [a, b, c, d, e], _ => exact ⟨_, _, _, _, _, rfl⟩
theorem len8 {cs : List Value} (h : cs.length = 8) : ∃ a b c d e f g h, cs = [a, b, c, d, e, f, g, h] := by
  match cs, h with
  | [a, b, c, d, e, f, g, h], _ => exact ⟨_, _, _, _, _, _, _, _, rfl⟩
def InR (w : World) (B : Nat) (wr : World) (out : Value) (L : List Ex) : Prop := ∃ C, wr.ownsRow B 93 8 out L.length (flat L.length C) ∧ ∀ i (hi : i < L.length), ExC (mem w) L[i] (C i)
theorem InR.push {w w3 : World} {B : Nat} {L : List Ex} {C : Nat → List Value} {cs : List Value} {x : Ex} {v : Value} (hg : ∀ i (hi : i < L.length), ExC (mem w) L[i] (C i)) (hx : ExC (mem w) x cs)
    (h : w3.ownsRow B 93 8 v (L.length + 1) (flat L.length C ++ cs)) : InR w B w3 v (L ++ [x]) := by
  refine ⟨fun i => if i = L.length then cs else C i, ?_, fun i hi => ?_⟩
  · have e1 : flat (L.length + 1) (fun i => if i = L.length then cs else C i) = flat L.length C ++ cs := by
      rw [flat_succ, if_pos rfl, flat_congr (D := C) (fun i hi => if_neg (by omega))]
    rw [List.length_append, List.length_singleton, e1]
    exact h
  · by_cases hin : i < L.length
    · rw [List.getElem_append_left hin]; show ExC _ _ (if i = L.length then cs else C i); rw [if_neg (by omega)]; exact hg i hin
    · have : i = L.length := by simp at hi; omega
      subst this
      show ExC _ _ (if L.length = L.length then cs else C L.length)
      rw [if_pos rfl]
      simpa using hx
theorem InR.exs {w wr : World} {B : Nat} {out : Value} {L : List Ex} (h : InR w B wr out L) (hb : Below w.heap.size w wr) : ExsV (mem wr) L out := by
  obtain ⟨C, ho, hg⟩ := h
  rcases ho.2 with ⟨rfl, h0⟩ | ⟨g, cap, cur, rfl, hbg, hgb, h1, h2, h3, h4⟩
  · exact ⟨none, 0, C, by rw [h0], ⟨by omega, Nat.zero_le _⟩, fun h => by omega, fun i hi => (hg i hi).mono (mem_below hb)⟩
  · refine ⟨_, cap, C, rfl, ⟨h1, h2⟩, fun _ => ⟨g, 0, rfl, fun i hi j hj => ?_⟩, fun i hi => (hg i hi).mono (mem_below hb)⟩
    show wr.cell? ⟨g, 0 + i * 8 + j, none⟩ = _
    rw [cell_of_row wr g _ _ _ _ hgb, Nat.zero_add, ← flat_at (fun i hi => (hg i hi).len) i j hi hj, ← h4, List.getElem?_take_of_lt, Array.getElem?_toList]
    have := Nat.mul_le_mul_right 8 (Nat.succ_le_of_lt hi)
    rw [Nat.succ_mul] at this; omega
theorem flat_cells {w cur : World} {A : Option Addr} {n : Nat} {C : Nat → List Value} (h : SlAt (mem w) 8 A n C) (hl : ∀ i, i < n → (C i).length = 8) (hb : Below w.heap.size w cur) :
    0 < n → ∃ a, A = some a ∧ ∀ j u, (flat n C)[j]? = some u → cur.cell? (a.add j) = some u := fun h0 => by
  obtain ⟨g, o, rfl, hc⟩ := h h0
  refine ⟨_, rfl, fun j u hj => ?_⟩
  have hjl : j < n * 8 := by rw [← flat_len hl]; exact (List.getElem?_eq_some_iff.1 hj).1
  have e : j = j / 8 * 8 + j % 8 := by omega
  have hi : j / 8 < n := by omega
  have hr : j % 8 < 8 := by omega
  have h1 := hc (j / 8) hi (j % 8) hr
  have h2 := flat_at hl (j / 8) (j % 8) hi hr
  rw [← e, hj] at h2
  rw [← h2] at h1
  have e2 : o + j / 8 * 8 + j % 8 = o + j := by omega
  rw [e2] at h1
  rw [Addr.add_mid]
  exact (hb.cell (p := ⟨g, o + j, none⟩) (cell_lt h1)).trans h1
theorem flat_one {n : Nat} {C : Nat → List Value} (h : ∀ i, i < n → Ok 8 (C i)) : ∀ u ∈ flat n C, u.oneCell' = true := by
  induction n with
  | zero => intro u hu; cases hu
  | succ n ih =>
    intro u hu
    rw [flat_succ] at hu
    rcases List.mem_append.1 hu with hu | hu
    · exact ih (fun i hi => h i (by omega)) u hu
    · exact (h n (by omega)).2 u hu

def CloneV (w : World) (n : Nat) (C : Nat → List Value) (e : Ending) (w' : World) : Prop := ∃ A' c', e = .returned (.slice A' n c') ∧ Below w.heap.size w w' ∧ w'.ownsRow w.heap.size 93 8 (.slice A' n c') n (flat n C)
set_option maxRecDepth 100000 in
set_option maxHeartbeats 4000000 in
theorem clone_any (A : Option Addr) (n c : Nat) (C : Nat → List Value) (w : World) (hn : n ≤ 200000) (hA : SlAt (mem w) 8 A n C) (hok : ∀ i, i < n → Ok 8 (C i)) :
    Calls Try.prog 97 #[.slice A n c] w (CloneV w n C) := by
  have hnews := flat_cells hA (fun i hi => (hok i hi).1) (bl1 w (.cells #[] 93))
  have h1 := flat_one hok
  have hl : (flat n C).length = n * 8 := flat_len (fun i hi => (hok i hi).1)
  have hA0 : A = none → n = 0 := fun e => by
    rcases Nat.eq_zero_or_pos n with h | h
    · exact h
    · obtain ⟨g, o, h2, _⟩ := hA h
      rw [e] at h2; cases h2
  have HNW := Lib.hid hnews; have H1 := Lib.hid h1; have HL := Lib.hid hl
  clear hnews h1 hl hA hok
  obtain ⟨gi0, hgi, hgz0, hgzs, hgzb⟩ := info_parts Try.infoEE
  have qn : ∀ (w : World) (a : Option Addr) (n c n' c' : Nat), (binOp .eql 88 (.slice a n c) (.slice none n' c')).run Try.prog w = .ok (.bool a.isNone) w := fun w a n c n' c' => Lib.run_eql_slice_nil w _ _ a n c n' c' Try.underlying88
  go_enter Try.func97, Try.ntmps97
  cases A with
  | none =>
    obtain rfl := hA0 rfl
    clear hA0
    go_wp2_with fail
    go_ret
    exact ⟨none, 0, rfl, Below.refl _ _, by simp [flat_zero], .inl ⟨rfl, rfl⟩⟩
  | some a =>
    clear hA0
    go_wp2_with ((with_reducible refine at_app ?_); refine wpList_append_copy rfl (.tmp 5) (.tmp 6) 88 rfl w.heap.size 93 gi0 (.agg #[.int .i64 0, .int .i64 0, .string { data := #[] }, .int .i64 0, .slice none 0 0, .slice none 0 0, .slice none 0 0, .slice none 0 0]) 8 136 Try.underlying88 hgi hgz0 hgzs hgzb rfl (by decide) ⟨w.heap.size, rfl, heap_alloc_new w _, Nat.le_refl _⟩ (some a) n c (flat n C) rfl HL.out HNW.out H1.out (by unfold maxLen; omega) (by omega) (by simp) ?_; intro A9 cap9 w9 hown9 hb9)
    go_ret
    exact ⟨A9, cap9, rfl, (bl1 w _).trans (hb9.mono (by simp)), hown9⟩

def InnerV (w : World) (D : Ex) (e : Ending) (w' : World) : Prop := ∃ v, e = .returned v ∧ Below w.heap.size w w' ∧ ExsV (mem w') (inn D) v
set_option maxRecDepth 100000 in
set_option maxHeartbeats 8000000 in
theorem inner_any (D : Ex) (cs : List Value) (w : World) (hcnt : cntEx D ≤ 100000) (hD : ExC (mem w) D cs) : Calls Try.prog 77 #[.agg cs.toArray] w (InnerV w D) := by
  obtain ⟨kk, aa, ss, nn, args, pats, alts, decls⟩ := D
  obtain ⟨v1, v2, v3, v4, rfl, h1, h2, h3, h4⟩ := hD.inv
  simp only [cntEx] at hcnt
  have hlenE := len_cntExs args
  have hlenA := len_cntAls alts
  have hlenD := len_cntDes decls
  have hn1 : args.length ≤ 100000 := by omega
  have hn2 : alts.length ≤ 100000 := by omega
  have hn3 : decls.length ≤ 100000 := by omega
  obtain ⟨A, c, C, rfl, hc, hA, hC⟩ := h1
  obtain ⟨A3, c3, C3, rfl, hc3, hA3, hC3⟩ := h3
  obtain ⟨A4, c4, C4, rfl, hc4, hA4, hC4⟩ := h4
  have hcl := fun (W : World) (hb : Below w.heap.size w W) => clone_any A args.length c C W (by omega) (hA.mono (mem_below hb) (fun i hi => (hC i hi).len)) (fun i hi => (hC i hi).ok)
  have HCL := Lib.hid hcl; have HCC := Lib.hid hC; have HA3 := Lib.hid hA3; have HCC3 := Lib.hid hC3; have HA4 := Lib.hid hA4; have HCC4 := Lib.hid hC4
  have O3 : Hid (∀ i, i < alts.length → (C3 i).length = 13) := Lib.hid (fun i hi => (hC3 i hi).len)
  have O4 : Hid (∀ i, i < decls.length → (C4 i).length = 18) := Lib.hid (fun i hi => (hC4 i hi).len)
  clear hcl hA hC hA3 hC3 hA4 hC4 hD hcnt hlenE hlenA hlenD hc hc3 hc4
  obtain ⟨n1, e1⟩ : ∃ x, x = args.length := ⟨_, rfl⟩
  obtain ⟨n2, e2⟩ : ∃ x, x = alts.length := ⟨_, rfl⟩
  obtain ⟨n3, e3⟩ : ∃ x, x = decls.length := ⟨_, rfl⟩
  rw [← e1] at HCL hn1; rw [← e2] at HA3 O3 hn2; rw [← e3] at HA4 O4 hn3
  have HN := Lib.hid e1; have HN2 := Lib.hid e2; have HN3 := Lib.hid e3
  rw [← HN.out, ← HN2.out, ← HN3.out]
  clear e1 e2 e3
  go_enter Try.func77, Try.ntmps77
  go_wp2_with fail
  refine (HCL.out _ (bl1 w _)).mono ?_
  rintro e w1 ⟨A0, c0, rfl, hb1, hown⟩
  have HOWN := Lib.hid hown
  have HB1 : Hid (Below (w.alloc (.cells #[.int .i64 kk, .int .i64 aa, .string ss, .int .i64 nn, .slice A n1 c, v2, .slice A3 n2 c3, .slice A4 n3 c4] 93)).heap.size (w.alloc (.cells #[.int .i64 kk, .int .i64 aa, .string ss, .int .i64 nn, .slice A n1 c, v2, .slice A3 n2 c3, .slice A4 n3 c4] 93)) w1) := Lib.hid hb1
  clear hb1 hown
  have HBW : Hid (Below w.heap.size w w1) := Lib.hid (bl_tr (bl1 w _) HB1.out)
  have HBK : Hid (Blk w1 w.heap.size 93 #[.int .i64 kk, .int .i64 aa, .string ss, .int .i64 nn, .slice A n1 c, v2, .slice A3 n2 c3, .slice A4 n3 c4]) := Lib.hid (bk_below (bk_new _ _ _ _ rfl) HB1.out)
  have hlt1 : w.heap.size < w1.heap.size := by have := HB1.out.size; simp at this; omega
  have hg6 : w1.cell? ⟨w.heap.size, 6, none⟩ = some (.slice A3 n2 c3) := (cell_of_row _ _ 6 _ _ _ HBK.out).trans rfl
  have HR0 : Hid (InR w (w.heap.size + 1) w1 (.slice A0 n1 c0) args) := Lib.hid ⟨C, by
    have h := HOWN.out
    rw [← HN.out]
    simpa using h, HCC.out⟩
  have HLT1 : Hid (w.heap.size + 1 ≤ w1.heap.size) := Lib.hid hlt1
  clear hlt1 HCL HOWN
  go_wp2_with fail
  clear hg6
  obtain ⟨gi0, hgi, hgz0, hgzs, hgzb⟩ := info_parts Try.infoEE
  go_loopg [3, 14] n2 (fun gk out i wr => ∃ (q : Nat) (A1 : Option Addr) (nL c1 : Nat), q ≤ n2 ∧ gk = n2 - q ∧ i = .int .i64 q ∧ out = .slice A1 nL c1 ∧ Hid (nL = (args ++ (alts.take q).map Al.body).length) ∧ Hid (Below (w.heap.size + 1) w1 wr) ∧ Hid (InR w (w.heap.size + 1) wr (.slice A1 nL c1) (args ++ (alts.take q).map Al.body)))
  case atStart => exact ⟨0, A0, n1, c0, Nat.zero_le _, rfl, rfl, rfl, Lib.hid (by simpa using HN.out), Lib.hid (Below.refl _ _), Lib.hid (by simpa using HR0.out)⟩
  case round =>
    obtain ⟨q, A1, nL, c1, hq, rfl, rfl, rfl, HNL0, HBR, HR⟩ := hrel
    have HBT : Hid (Below w.heap.size w wr) := Lib.hid (HBW.out.trans (HBR.out.mono (by omega)))
    have hbase : w.heap.size + 1 ≤ wr.heap.size := Nat.le_trans HLT1.out HBR.out.size
    by_cases hlt : q < n2
    · obtain ⟨CC, hown, hgood⟩ := HR.out
      clear HR
      obtain ⟨L, hL⟩ : ∃ x, x = args ++ (alts.take q).map Al.body := ⟨_, rfl⟩
      rw [← hL] at hown hgood
      have hLn : L.length ≤ n1 + q := by rw [hL, HN.out]; simp; have := HN2.out; omega
      obtain ⟨g, o, rfl, hc1⟩ := HA3.out (by omega)
      have hql : q < alts.length := by rw [← HN2.out]; exact hlt
      have hcq := HCC3.out q hql
      have r1 := range_at HBT.out hc1 hlt (O3.out q hlt)
      have hstep : args ++ (alts.take (q + 1)).map Al.body = L ++ [alts[q].body] := by rw [hL, List.take_succ_eq_append_getElem hql, List.map_append, List.append_assoc]; rfl
      obtain ⟨x, hx⟩ : ∃ x, x = alts[q] := ⟨_, rfl⟩
      rw [← hx] at hcq hstep
      obtain ⟨p, b⟩ := x
      obtain ⟨cp, cb, ec, hp, hb⟩ := hcq.inv
      have hone := hcq.ok
      have honeb := hb.ok
      rw [ec] at r1 hone
      obtain ⟨p0, p1, p2, p3, p4, rfl⟩ := len5 hp.len
      obtain ⟨e0, e1, e2, e3, e4, e5, e6, e7, rfl⟩ := len8 hb.len
      simp only [List.cons_append, List.nil_append] at r1 hone
      have hbb : ExC (mem w) (Al.mk p b).body [e0, e1, e2, e3, e4, e5, e6, e7] := hb
      have HST := Lib.hid hstep; have RR := Lib.hid r1; have HOK := Lib.hid hone; have HOB := Lib.hid honeb.2; have HGD := Lib.hid hgood; have HXB := Lib.hid hbb
      have hnL := HNL0.out
      rw [← hL] at hnL
      rw [← hnL] at hown hLn
      have HRO := Lib.hid hown; have HNL := Lib.hid hnL
      clear hc1 r1 hcq ec hx hp hb hbb hstep hone honeb hown hgood hnL hL
      have hk1 : (q : Int) < (n2 : Int) := by omega
      have II := Lib.hid Try.riAlt
      have IE := Lib.hid (show (Try.prog.info? 93).map (·.size) = some ([e0, e1, e2, e3, e4, e5, e6, e7] : List Value).length from Try.irEE)
      have R5 := Lib.hid (show (wr.alloc (.cells #[p0, p1, p2, p3, p4, e0, e1, e2, e3, e4, e5, e6, e7] 135)).rangeAt wr.heap.size 5 [e0, e1, e2, e3, e4, e5, e6, e7] from rg_right (a := [p0, p1, p2, p3, p4]) (n := 5) (o := 0) (range_new wr 135 [p0, p1, p2, p3, p4, e0, e1, e2, e3, e4, e5, e6, e7]) rfl)
      go_wp2_with (first | ((with_reducible refine at_ld 17 ?_); refine wpList_load_mid rfl 135 (.tmp 16) rfl g (o + q * 13) rfl [p0, p1, p2, p3, p4, e0, e1, e2, e3, e4, e5, e6, e7] _ RR.out Try.underlying135 rfl II.out ?_) | ((with_reducible refine at_st 5 17 ?_); refine wpList_store_new rfl 135 (.tmp 5) (.tmp 17) rfl wr.heap.size rfl rfl #[p0, p1, p2, p3, p4, e0, e1, e2, e3, e4, e5, e6, e7] rfl #[.int .i64 0, .int .i64 0, .string { data := #[] }, .int .i64 0, .slice none 0 0, .int .i64 0, .int .i64 0, .string { data := #[] }, .int .i64 0, .slice none 0 0, .slice none 0 0, .slice none 0 0, .slice none 0 0] II.out rfl HOK.out.arr ?_) | ((with_reducible refine at_ld 20 ?_); refine wpList_load_mid rfl 93 (.tmp 19) rfl wr.heap.size 5 rfl [e0, e1, e2, e3, e4, e5, e6, e7] _ R5.out Try.underlying93 rfl IE.out ?_) | ((with_reducible refine at_app ?_); refine wpList_append_lies _ rfl (.tmp 18) (.tmp 21) 88 rfl (w.heap.size + 1) 93 gi0 (.agg #[.int .i64 0, .int .i64 0, .string { data := #[] }, .int .i64 0, .slice none 0 0, .slice none 0 0, .slice none 0 0, .slice none 0 0]) 8 136 Try.underlying88 hgi hgz0 hgzs hgzb rfl (by decide) (.slice A1 nL c1) nL (flat nL CC) rfl (own_below HRO.out (bl2 wr _ _)) ⟨wr.heap.size + 1, 0, none⟩ 1 1 [e0, e1, e2, e3, e4, e5, e6, e7] rfl rfl (World.news_of_block (cs := #[e0, e1, e2, e3, e4, e5, e6, e7]) (t := 93) (fr := (0, 0)) (bk_new _ _ _ _ (by simp))) HOB.out (by decide) (by unfold maxLen; omega) (by omega) (by simp; omega) (wr.heap.size + 1 + 1) (by simp) ?_; intro g9 cap9 w9 hown9 hgrow9 hat9 hglt9; have HOW := Lib.hid hown9; have HGR := Lib.hid hgrow9; clear hown9 hgrow9 hat9))
      go_roundg (n2 - (q + 1))
      case measure => omega
      case rel =>
        refine ⟨q + 1, some ⟨g9, 0, none⟩, nL + 1, cap9, by omega, rfl, by go_num, rfl, Lib.hid (by rw [HST.out, HNL.out]; simp), Lib.hid ?_, Lib.hid ?_⟩
        · exact (HBR.out.trans ((bl2 wr _ _).mono hbase)).grown HGR.out (by simp; omega) (fun k hk => (ownB_lt HRO.out hk).1)
        · rw [HST.out]
          have h := HOW.out
          rw [HNL.out] at h ⊢
          exact InR.push HGD.out HXB.out h
    · obtain rfl : n2 = q := by omega
      obtain ⟨wo, rfl⟩ : ∃ wo : World, wo = wr := ⟨_, rfl⟩
      have HNE : Hid (nL = (args ++ alts.map Al.body).length) := Lib.hid (by have h := HNL0.out; rw [HN2.out, List.take_length] at h; exact h)
      have HRE : Hid (InR w (w.heap.size + 1) wo (.slice A1 nL c1) (args ++ alts.map Al.body)) := Lib.hid (by have h := HR.out; rw [HN2.out, List.take_length] at h; exact h)
      clear HR
      have hg7 : wo.cell? ⟨w.heap.size, 7, none⟩ = some (.slice A4 n3 c4) := (cell_of_row _ _ 7 _ _ _ ((HBR.out.block _ (by omega)).trans HBK.out)).trans rfl
      go_wp2_with fail
      clear hg7
      go_loopg [3, 27] n3 (fun gk out i wr => ∃ (q : Nat) (A1 : Option Addr) (nL c1 : Nat), q ≤ n3 ∧ gk = n3 - q ∧ i = .int .i64 q ∧ out = .slice A1 nL c1 ∧ Hid (nL = (args ++ alts.map Al.body ++ ((decls.take q).filter (fun d => decide (d.kind = 3))).map De.body).length) ∧ Hid (Below (w.heap.size + 1) wo wr) ∧ Hid (InR w (w.heap.size + 1) wr (.slice A1 nL c1) (args ++ alts.map Al.body ++ ((decls.take q).filter (fun d => decide (d.kind = 3))).map De.body)))
      case atStart => exact ⟨0, A1, nL, c1, Nat.zero_le _, rfl, rfl, rfl, Lib.hid (by simpa using HNE.out), Lib.hid (Below.refl _ _), Lib.hid (by simpa using HRE.out)⟩
      case round =>
        obtain ⟨q, A1, nL, c1, hq, rfl, rfl, rfl, HNL0, HBR2, HR⟩ := hrel
        have HBT2 : Hid (Below w.heap.size w wr) := Lib.hid (HBT.out.trans (HBR2.out.mono (by omega)))
        have hbase2 : w.heap.size + 1 ≤ wr.heap.size := Nat.le_trans hbase HBR2.out.size
        by_cases hlt : q < n3
        · obtain ⟨CC, hown, hgood⟩ := HR.out
          have HRS := HR
          clear HR
          obtain ⟨L, hL⟩ : ∃ x, x = args ++ alts.map Al.body ++ ((decls.take q).filter (fun d => decide (d.kind = 3))).map De.body := ⟨_, rfl⟩
          rw [← hL] at hown hgood HRS
          have hLn : L.length ≤ n1 + n2 + q := by
            rw [hL, HN.out, HN2.out]; simp
            have h1 := List.length_filter_le (fun d => decide (d.kind = 3)) (decls.take q)
            simp at h1; omega
          obtain ⟨g, o, rfl, hc1⟩ := HA4.out (by omega)
          have hql : q < decls.length := by rw [← HN3.out]; exact hlt
          have hcq := HCC4.out q hql
          have r1 := range_at HBT2.out hc1 hlt (O4.out q hlt)
          have hstep : args ++ alts.map Al.body ++ ((decls.take (q + 1)).filter (fun d => decide (d.kind = 3))).map De.body = if decls[q].kind = 3 then L ++ [decls[q].body] else L := by
            rw [hL, List.take_succ_eq_append_getElem hql, List.filter_append, List.map_append]
            by_cases h3 : decls[q].kind = 3
            · rw [if_pos h3]; simp [h3]
            · rw [if_neg h3]; simp [h3]
          obtain ⟨x, hx⟩ : ∃ x, x = decls[q] := ⟨_, rfl⟩
          rw [← hx] at hcq hstep
          obtain ⟨dk, da, dn, vars, cons, ty, dpats, b⟩ := x
          obtain ⟨vv, vc, vp, ct, cb, ec, _, _, _, ht, _, hb⟩ := hcq.inv
          have hone := hcq.ok
          have honeb := hb.ok
          rw [ec] at r1 hone
          obtain ⟨p5, p6, p7, p8, rfl⟩ := len4 ht.len
          obtain ⟨e0, e1, e2, e3, e4, e5, e6, e7, rfl⟩ := len8 hb.len
          simp only [List.cons_append, List.nil_append] at r1 hone
          obtain ⟨d1, hd1⟩ : ∃ x, x = Value.int .i64 da := ⟨_, rfl⟩
          obtain ⟨d2, hd2⟩ : ∃ x, x = Value.string dn := ⟨_, rfl⟩
          rw [← hd1, ← hd2] at r1 hone
          have hbb : ExC (mem w) b [e0, e1, e2, e3, e4, e5, e6, e7] := hb
          have hst3 : args ++ alts.map Al.body ++ ((decls.take (q + 1)).filter (fun d => decide (d.kind = 3))).map De.body = if dk = 3 then L ++ [b] else L := hstep
          have HST := Lib.hid hst3; have RR := Lib.hid r1; have HOK := Lib.hid hone; have HOB := Lib.hid honeb.2; have HGD := Lib.hid hgood; have HXB := Lib.hid hbb
          have hnL := HNL0.out
          rw [← hL] at hnL
          rw [← hnL] at hown hLn
          have HRO := Lib.hid hown; have HNL := Lib.hid hnL
          clear hc1 r1 hcq ec hx hb hbb hst3 hstep hone honeb hown hgood hnL hL hd1 hd2 ht
          have hk1 : (q : Int) < (n3 : Int) := by omega
          have II := Lib.hid Try.riDecl
          have IE := Lib.hid (show (Try.prog.info? 93).map (·.size) = some ([e0, e1, e2, e3, e4, e5, e6, e7] : List Value).length from Try.irEE)
          have R10 := Lib.hid (show (wr.alloc (.cells #[.int .i64 dk, d1, d2, vv, vc, p5, p6, p7, p8, vp, e0, e1, e2, e3, e4, e5, e6, e7] 171)).rangeAt wr.heap.size 10 [e0, e1, e2, e3, e4, e5, e6, e7] from rg_right (a := [.int .i64 dk, d1, d2, vv, vc, p5, p6, p7, p8, vp]) (n := 10) (o := 0) (range_new wr 171 [.int .i64 dk, d1, d2, vv, vc, p5, p6, p7, p8, vp, e0, e1, e2, e3, e4, e5, e6, e7]) rfl)
          by_cases h3 : dk = 3
          · subst h3
            go_wp2_with (first | ((with_reducible refine at_ld 30 ?_); refine wpList_load_mid rfl 171 (.tmp 29) rfl g (o + q * 18) rfl [.int .i64 3, d1, d2, vv, vc, p5, p6, p7, p8, vp, e0, e1, e2, e3, e4, e5, e6, e7] _ RR.out Try.underlying171 rfl II.out ?_) | ((with_reducible refine at_st 7 30 ?_); refine wpList_store_new rfl 171 (.tmp 7) (.tmp 30) rfl wr.heap.size rfl rfl #[.int .i64 3, d1, d2, vv, vc, p5, p6, p7, p8, vp, e0, e1, e2, e3, e4, e5, e6, e7] rfl #[.int .i64 0, .int .i64 0, .string { data := #[] }, .slice none 0 0, .slice none 0 0, .int .i64 0, .int .i64 0, .string { data := #[] }, .slice none 0 0, .slice none 0 0, .int .i64 0, .int .i64 0, .string { data := #[] }, .int .i64 0, .slice none 0 0, .slice none 0 0, .slice none 0 0, .slice none 0 0] II.out rfl HOK.out.arr ?_) | ((with_reducible refine at_ld 36 ?_); refine wpList_load_mid rfl 93 (.tmp 35) rfl wr.heap.size 10 rfl [e0, e1, e2, e3, e4, e5, e6, e7] _ R10.out Try.underlying93 rfl IE.out ?_) | ((with_reducible refine at_app ?_); refine wpList_append_lies _ rfl (.tmp 34) (.tmp 37) 88 rfl (w.heap.size + 1) 93 gi0 (.agg #[.int .i64 0, .int .i64 0, .string { data := #[] }, .int .i64 0, .slice none 0 0, .slice none 0 0, .slice none 0 0, .slice none 0 0]) 8 136 Try.underlying88 hgi hgz0 hgzs hgzb rfl (by decide) (.slice A1 nL c1) nL (flat nL CC) rfl (own_below HRO.out (bl2 wr _ _)) ⟨wr.heap.size + 1, 0, none⟩ 1 1 [e0, e1, e2, e3, e4, e5, e6, e7] rfl rfl (World.news_of_block (cs := #[e0, e1, e2, e3, e4, e5, e6, e7]) (t := 93) (fr := (0, 0)) (bk_new _ _ _ _ (by simp))) HOB.out (by decide) (by unfold maxLen; omega) (by omega) (by simp; omega) (wr.heap.size + 1 + 1) (by simp) ?_; intro g9 cap9 w9 hown9 hgrow9 hat9 hglt9; have HOW := Lib.hid hown9; have HGR := Lib.hid hgrow9; clear hown9 hgrow9 hat9))
            go_roundg (n3 - (q + 1))
            case measure => omega
            case rel =>
              refine ⟨q + 1, some ⟨g9, 0, none⟩, nL + 1, cap9, by omega, rfl, by go_num, rfl, Lib.hid (by rw [HST.out, if_pos trivial, HNL.out]; simp), Lib.hid ?_, Lib.hid ?_⟩
              · exact (HBR2.out.trans ((bl2 wr _ _).mono hbase2)).grown HGR.out (by simp; omega) (fun k hk => (ownB_lt HRO.out hk).1)
              · rw [HST.out, if_pos trivial]
                have h := HOW.out
                rw [HNL.out] at h ⊢
                exact InR.push HGD.out HXB.out h
          · have h3b : (dk == 3) = false := by simp [h3]
            go_wp2_with (first | ((with_reducible refine at_ld 30 ?_); refine wpList_load_mid rfl 171 (.tmp 29) rfl g (o + q * 18) rfl [.int .i64 dk, d1, d2, vv, vc, p5, p6, p7, p8, vp, e0, e1, e2, e3, e4, e5, e6, e7] _ RR.out Try.underlying171 rfl II.out ?_) | ((with_reducible refine at_st 7 30 ?_); refine wpList_store_new rfl 171 (.tmp 7) (.tmp 30) rfl wr.heap.size rfl rfl #[.int .i64 dk, d1, d2, vv, vc, p5, p6, p7, p8, vp, e0, e1, e2, e3, e4, e5, e6, e7] rfl #[.int .i64 0, .int .i64 0, .string { data := #[] }, .slice none 0 0, .slice none 0 0, .int .i64 0, .int .i64 0, .string { data := #[] }, .slice none 0 0, .slice none 0 0, .int .i64 0, .int .i64 0, .string { data := #[] }, .int .i64 0, .slice none 0 0, .slice none 0 0, .slice none 0 0, .slice none 0 0] II.out rfl HOK.out.arr ?_))
            go_roundg (n3 - (q + 1))
            case measure => omega
            case rel =>
              refine ⟨q + 1, A1, nL, c1, by omega, rfl, by go_num, rfl, Lib.hid (by rw [HST.out, if_neg h3, HNL.out]), Lib.hid (HBR2.out.trans ((bl1 wr _).mono hbase2)), Lib.hid ?_⟩
              rw [HST.out, if_neg h3]
              obtain ⟨CQ, hq1, hq2⟩ := HRS.out
              exact ⟨CQ, own_below hq1 (bl1 wr _), hq2⟩
        · obtain rfl : n3 = q := by omega
          go_wp2_with fail
          go_ret
          have h := HR.out
          rw [HN3.out, List.take_length] at h
          exact ⟨_, rfl, HBT2.out, h.exs HBT2.out⟩
end Go.Proofs.Ytfeghobfkgimfaa
