/- The document's declarations, copied. -/
import Derived.Test.YtfeghobfkgimfaaTreeC
import Derived.Test.YtfeghobfkgimfaaCopyA
namespace Go.Proofs.Ytfeghobfkgimfaa
set_option linter.unusedSimpArgs false
set_option linter.unusedVariables false
open Go.RowKit Go.Shelf

def GCo (l : List Co) (m : Mem) (i : Nat) (cs : List Value) : Prop := ∃ hi : i < l.length, CoC m l[i] cs
theorem GCo.mono (l : List Co) : ∀ m m' i cs, Mem.le m m' → GCo l m i cs → GCo l m' i cs := fun _ _ _ _ hm ⟨hi, h⟩ => ⟨hi, h.mono hm⟩
theorem RowX.cos {w : World} {X Y : Nat → Prop} {base : Nat} {e : TypeId} {v : Value} {C : Nat → List Value} {l : List Co} (h : RowX w X base e 3 v l.length C (GCo l)) (hY : ∀ g, X g → Y g) (hYb : ∀ g, base ≤ g → v.ownBlock = some g → Y g) : CosV (memX w Y) l v := by
  obtain ⟨A, c, hv, hc, hs, hg⟩ := h.slice (GCo.mono l) hY hYb
  exact ⟨A, c, C, hv, hc, hs, fun i hi => (hg i hi).2⟩
/-- Texts in their row, copied. -/
theorem strs_news {w cur : World} {A : Option Addr} {n : Nat} {vars : List ByteArray} (h : SlAt (mem w) 1 A n (fun i => [.string (vars.getD i ByteArray.empty)])) (hn : n = vars.length) (hb : Below w.heap.size w cur) :
    0 < n → ∃ a, A = some a ∧ ∀ j u, (vars.map Value.string)[j]? = some u → cur.cell? (a.add j) = some u := fun h0 => by
  obtain ⟨g, o, rfl, hc⟩ := h h0
  refine ⟨_, rfl, fun j u hj => ?_⟩
  have hjl : j < vars.length := by simpa using (List.getElem?_eq_some_iff.1 hj).1
  have h1 := hc j (by omega) 0 (by omega)
  rw [Addr.add_mid]
  have e : u = .string (vars.getD j ByteArray.empty) := by
    rw [List.getElem?_map, List.getElem?_eq_getElem hjl] at hj
    simp at hj
    rw [← hj]; simp [hjl]
  simp only [mem, Nat.mul_one, Nat.add_zero, List.getElem?_cons_zero] at h1
  rw [e]
  exact (hb.cell (p := ⟨g, o + j, none⟩) (cell_lt h1)).trans h1
theorem strs_own {w : World} {base : Nat} {A : Option Addr} {n c : Nat} {vars : List ByteArray} (h : w.ownsRow base 9 1 (.slice A n c) n (vars.map Value.string)) (hn : n = vars.length) {Y : Nat → Prop}
    (hY : ∀ g, base ≤ g → ∀ cur, w.heap[g]? = some (.cells cur 9 (0, 0)) → Y g) : StrsV (memX w Y) vars (.slice A n c) := by
  subst hn
  rcases h.2 with ⟨e, h0⟩ | ⟨g, cap, cur, e, hb, hg, h1, h2, h3, h4⟩
  · injection e with ea en ec
    subst ea; subst ec
    exact ⟨none, 0, rfl, ⟨by omega, Nat.zero_le _⟩, fun h => by omega⟩
  · injection e with ea en ec
    subst ea; subst ec
    refine ⟨_, c, rfl, ⟨h1, h2⟩, fun h0 => ⟨g, 0, rfl, fun i hi j hj => ?_⟩⟩
    obtain rfl : j = 0 := by omega
    unfold memX
    rw [if_pos (hY g hb cur hg), cell_of_row w g _ _ _ _ hg, Nat.zero_add, Nat.mul_one, Nat.add_zero]
    have e1 : cur[i]? = (cur.toList.take (vars.length * 1))[i]? := by rw [List.getElem?_take_of_lt (by omega), Array.getElem?_toList]
    rw [e1, h4]
    simp [hi]
theorem pts_ok {m : Mem} {l : List Pt} {v : Value} (h : PtsV m l v) : Ok 1 [v] := by
  obtain ⟨A, c, C, rfl, _⟩ := h
  exact ⟨rfl, by simp [Value.oneCell']⟩
theorem own_ok {kk aa : Int} {ss : ByteArray} {A : Option Addr} {n c : Nat} {A' : Option Addr} {n' c' : Nat} {x0 x1 x2 x3 y : Value} {z0 z1 z2 z3 z4 z5 z6 z7 : Value} (h1 : Ok 4 [x0, x1, x2, x3]) (h2 : Ok 1 [y]) (h3 : Ok 8 [z0, z1, z2, z3, z4, z5, z6, z7]) :
    ∀ v ∈ #[.int .i64 kk, .int .i64 aa, .string ss, .slice A n c, .slice A' n' c', x0, x1, x2, x3, y, z0, z1, z2, z3, z4, z5, z6, z7], v.oneCell' = true := by
  have h0 : Ok 5 [.int .i64 kk, .int .i64 aa, .string ss, .slice A n c, .slice A' n' c'] := ⟨rfl, by simp [Value.oneCell']⟩
  exact (((h0.app h1).app h2).app h3).arr
theorem len_cntCos (l : List Co) : l.length ≤ cntCos l := by
  induction l with
  | nil => exact Nat.zero_le _
  | cons x l ih => rw [cntCos, List.length_cons]; omega
theorem cntCos_mem {l : List Co} {c : Co} (h : c ∈ l) : cntTys c.args ≤ cntCos l := by
  induction l with
  | nil => cases h
  | cons x l ih =>
    rw [cntCos]
    rcases List.mem_cons.1 h with rfl | h
    · omega
    · have := ih h
      omega
theorem cntDes_mem {l : List De} {k a : Int} {s : ByteArray} {vars : List ByteArray} {cons : List Co} {ty : Ty} {pats : List Pt} {body : Ex} (h : De.mk k a s vars cons ty pats body ∈ l) : 1 + vars.length + cntCos cons + cntTys [ty] + cntPts pats + cntEx body ≤ cntDes l := by
  induction l with
  | nil => cases h
  | cons x l ih =>
    obtain ⟨k', a', s', vars', cons', ty', pats', body'⟩ := x
    rw [cntDes]
    rcases List.mem_cons.1 h with e | h
    · cases e; omega
    · have := ih h
      omega

/-- The copy half made: all but its constructors. -/
structure DeAt (wo : World) (rd : Array Value) (vars : List ByteArray) (ty : Ty) (pats : List Pt) (body : Ex) (g6 : Nat) (cs : Array Value) (vv : Value) (ct : List Value) (vq : Value) (cb : List Value) (W1 : World) : Prop where
  below : Below wo.heap.size wo W1
  box : Blk W1 wo.heap.size 164 rd
  loc : Blk W1 g6 171 cs
  far : wo.heap.size + 1 ≤ g6
  vs : StrsV (memX W1 (fun g => wo.heap.size + 1 ≤ g ∧ g ≠ g6)) vars vv
  tys : TyC (memX W1 (fun g => wo.heap.size + 1 ≤ g ∧ g ≠ g6)) ty ct
  pts : PtsV (memX W1 (fun g => wo.heap.size + 1 ≤ g ∧ g ≠ g6)) pats vq
  exs : ExC (memX W1 (fun g => wo.heap.size + 1 ≤ g ∧ g ≠ g6)) body cb
  ok : ∀ v ∈ cs, v.oneCell' = true
theorem Try.infoS : (Try.prog.info? 9).map (fun i => (i.zero, i.size, i.bytes)) = some (some (.string { data := #[] }), 1, 16) := by kernel_rfl
theorem Try.infoC : (Try.prog.info? 176).map (fun i => (i.zero, i.size, i.bytes)) = some (some (.agg #[.int .i64 0, .string { data := #[] }, .slice none 0 0]), 3, 48) := by kernel_rfl
theorem Try.infoD : (Try.prog.info? 171).map (fun i => (i.zero, i.size, i.bytes)) = some (some (.agg #[.int .i64 0, .int .i64 0, .string { data := #[] }, .slice none 0 0, .slice none 0 0, .int .i64 0, .int .i64 0, .string { data := #[] }, .slice none 0 0, .slice none 0 0, .int .i64 0, .int .i64 0, .string { data := #[] }, .int .i64 0, .slice none 0 0, .slice none 0 0, .slice none 0 0, .slice none 0 0]), 18, 296) := by kernel_rfl

set_option maxRecDepth 100000 in
set_option maxHeartbeats 8000000 in
theorem ownDes_of (l : List De) (v : Value) (w : World) (hcnt : cntDes l ≤ 100000) (hv : DesV (mem w) l v)
    (ihE : ∀ D', SizeOf.sizeOf (D' : Ex) < SizeOf.sizeOf l → cntEx D' ≤ 100000 → ∀ cs' W, ExC (mem W) D' cs' → Calls Try.prog 35 #[.agg cs'.toArray] W (OwnExV W D')) :
    Calls Try.prog 69 #[v] w (OwnDesV w l) := by
  obtain ⟨A, c, C, rfl, hc, hA, hC⟩ := hv
  have HA := Lib.hid hA; have HCC := Lib.hid hC; have HEE := Lib.hid ihE
  have O1 : Hid (∀ i, i < l.length → (C i).length = 18) := Lib.hid (fun i hi => (hC i hi).len)
  have hlen := len_cntDes l
  have hn1 : l.length ≤ 100000 := by omega
  have HCNT := Lib.hid hcnt
  clear hA hC ihE hc hlen hcnt
  obtain ⟨n1, e1⟩ : ∃ x, x = l.length := ⟨_, rfl⟩
  rw [← e1] at HA O1 hn1
  have HN := Lib.hid e1
  rw [← HN.out]
  clear e1
  go_enter Try.func69, Try.ntmps69
  go_wp2_with fail
  go_loopg [3, 4] n1 (fun gk out i wr => ∃ (q : Nat), q ≤ n1 ∧ gk = n1 - q ∧ i = .int .i64 q ∧ Hid (Below w.heap.size w wr) ∧ Hid (∃ C2, RowX wr (w.heap.size ≤ ·) w.heap.size 171 18 out q C2 (GDe l)))
  case atStart => exact ⟨0, Nat.zero_le _, rfl, rfl, Lib.hid (Below.refl _ _), Lib.hid ⟨fun _ => [], RowX.nil _ _ _ _ _ _ _⟩⟩
  case round =>
    rename_i out _ _
    obtain ⟨q, hq, rfl, rfl, HBR, HR⟩ := hrel
    obtain ⟨wo, rfl⟩ : ∃ wo : World, wo = wr := ⟨_, rfl⟩
    obtain ⟨C2, hR⟩ := HR.out
    obtain ⟨A1, c1, e1⟩ := rowo_slice hR.own
    subst e1
    clear HR
    have HRO := Lib.hid hR
    clear hR
    by_cases hlt : q < n1
    · obtain ⟨g, o, rfl, hc1⟩ := HA.out (by omega)
      have hql : q < l.length := by rw [← HN.out]; exact hlt
      have hcq := (HCC.out q hql).mono (mem_below HBR.out)
      have r1 := range_at HBR.out hc1 hlt (O1.out q hlt)
      have hmem : l[q] ∈ l := List.getElem_mem hql
      obtain ⟨x, hx⟩ : ∃ x, x = l[q] := ⟨_, rfl⟩
      rw [← hx] at hcq hmem
      obtain ⟨kk, aa, ss, vars, cons, ty, pats, body⟩ := x
      have hone := hcq.ok
      obtain ⟨_, _, vp, ct, cb, ec, ⟨A3, cv, rfl, hvc, hvA⟩, hdok, ⟨A4, cc, CC, rfl, hcc, hcA, hcC⟩, ht, hp, hb⟩ := hcq.inv
      rw [ec] at r1 hone
      have hcl := cntDes_mem hmem
      have hct := HCNT.out
      have hsz := List.sizeOf_lt_of_mem hmem
      simp at hsz
      obtain ⟨ta, tb, tc, t3, rfl⟩ := ht.sh
      obtain ⟨ba, bb, bc, bd, b4, b5, b6, b7, rfl⟩ := hb.sh
      have c3' := fun (W : World) (hW : Below wo.heap.size wo W) => ownTy_any ty [.int .i64 ta, .int .i64 tb, .string tc, t3] W (by omega) (ht.mono (mem_below hW))
      have c4' := fun (W : World) (hW : Below wo.heap.size wo W) => ownPts_any pats vp W (by omega) (hp.mono (mem_below hW))
      have c5' := fun (W : World) (hW : Below wo.heap.size wo W) => HEE.out body (by omega) (by omega) _ W (hb.mono (mem_below hW))
      simp only [List.cons_append, List.nil_append] at r1 hone
      obtain ⟨nv, hnv⟩ : ∃ n, n = vars.length := ⟨_, rfl⟩
      obtain ⟨nc, hnc⟩ : ∃ n, n = cons.length := ⟨_, rfl⟩
      have hlc := len_cntCos cons
      have hnvb : vars.length ≤ 100000 := by omega
      have hncb : cons.length ≤ 100000 := by omega
      have hcoE : ∀ j (hj : j < cons.length), ∃ va, CC j = [.int .i64 cons[j].at_, .string cons[j].name, va] ∧ ∀ W, Below wo.heap.size wo W → Calls Try.prog 91 #[va] W (OwnTysV W cons[j].args) := fun j hj => by
        obtain ⟨va, e, hva⟩ := hcC j hj
        exact ⟨va, e, fun W hW => ownTys_any cons[j].args va W (by have := cntCos_mem (List.getElem_mem hj); omega) (hva.mono (mem_below hW))⟩
      have hclen : ∀ j, j < cons.length → (CC j).length = 3 := fun j hj => (hcC j hj).len
      have hvA' : SlAt (mem wo) 1 A3 vars.length (fun i => [.string (vars.getD i ByteArray.empty)]) := hvA
      have HVA := Lib.hid hvA'; have HCA := Lib.hid hcA; have HCT := Lib.hid hcoE; have HCL := Lib.hid hclen
      rw [← hnv] at r1 hone HVA hnvb; rw [← hnc] at r1 hone HCA HCL hncb
      have HNV := Lib.hid hnv; have HNC := Lib.hid hnc; have HDK := Lib.hid hdok
      have K3 := Lib.hid c3'; have K4 := Lib.hid c4'; have K5 := Lib.hid c5'
      have RR := Lib.hid r1; have HOK := Lib.hid hone; have HX := Lib.hid hx
      have hk1 : (q : Int) < (n1 : Int) := by omega
      have II := Lib.hid Try.irD
      clear hc1 r1 ec ht hp hb hmem hx hcq hone c3' c4' c5' hvA hvA' hcA hcC hcoE hclen hvc hcc hnv hnc hdok hcl hct hlc hsz
      obtain ⟨t0, et0⟩ : ∃ x, x = Value.int .i64 ta := ⟨_, rfl⟩
      obtain ⟨t1, et1⟩ : ∃ x, x = Value.int .i64 tb := ⟨_, rfl⟩
      obtain ⟨t2, et2⟩ : ∃ x, x = Value.string tc := ⟨_, rfl⟩
      obtain ⟨b0, eb0⟩ : ∃ x, x = Value.int .i64 ba := ⟨_, rfl⟩
      obtain ⟨b1, eb1⟩ : ∃ x, x = Value.int .i64 bb := ⟨_, rfl⟩
      obtain ⟨b2, eb2⟩ : ∃ x, x = Value.string bc := ⟨_, rfl⟩
      obtain ⟨b3, eb3⟩ : ∃ x, x = Value.int .i64 bd := ⟨_, rfl⟩
      rw [← et0, ← et1, ← et2] at RR HOK K3
      rw [← eb0, ← eb1, ← eb2, ← eb3] at RR HOK K5
      clear et0 et1 et2 eb0 eb1 eb2 eb3
      have hb0 := bl1 wo (.cells #[.int .i64 kk, .int .i64 aa, .string ss, .slice A3 nv cv, .slice A4 nc cc, t0, t1, t2, t3, vp, b0, b1, b2, b3, b4, b5, b6, b7] 164)
      have hk5 : Blk (wo.alloc (.cells #[.int .i64 kk, .int .i64 aa, .string ss, .slice A3 nv cv, .slice A4 nc cc, t0, t1, t2, t3, vp, b0, b1, b2, b3, b4, b5, b6, b7] 164)) wo.heap.size 164 #[.int .i64 kk, .int .i64 aa, .string ss, .slice A3 nv cv, .slice A4 nc cc, t0, t1, t2, t3, vp, b0, b1, b2, b3, b4, b5, b6, b7] := bk_new _ _ _ _ rfl
      go_wp2_with (first | ((with_reducible refine at_ld 17 ?_); refine wpList_load_mid rfl 164 (.tmp 16) rfl g (o + q * 18) rfl [.int .i64 kk, .int .i64 aa, .string ss, .slice A3 nv cv, .slice A4 nc cc, t0, t1, t2, t3, vp, b0, b1, b2, b3, b4, b5, b6, b7] _ RR.out Try.underlying164 rfl II.out ?_) | ((with_reducible refine at_st 5 17 ?_); refine wpList_store_new rfl 164 (.tmp 5) (.tmp 17) rfl wo.heap.size rfl rfl #[.int .i64 kk, .int .i64 aa, .string ss, .slice A3 nv cv, .slice A4 nc cc, t0, t1, t2, t3, vp, b0, b1, b2, b3, b4, b5, b6, b7] rfl #[.int .i64 0, .int .i64 0, .string { data := #[] }, .slice none 0 0, .slice none 0 0, .int .i64 0, .int .i64 0, .string { data := #[] }, .slice none 0 0, .slice none 0 0, .int .i64 0, .int .i64 0, .string { data := #[] }, .int .i64 0, .slice none 0 0, .slice none 0 0, .slice none 0 0, .slice none 0 0] II.out rfl HOK.out.arr ?_))
      obtain ⟨W0, hW0⟩ : ∃ W0, wo.alloc (.cells #[.int .i64 kk, .int .i64 aa, .string ss, .slice A3 nv cv, .slice A4 nc cc, t0, t1, t2, t3, vp, b0, b1, b2, b3, b4, b5, b6, b7] 164) = W0 := ⟨_, rfl⟩
      rw [hW0] at hb0 hk5 ⊢
      have HSZ : Hid (W0.heap.size = wo.heap.size + 1) := Lib.hid (by rw [← hW0]; simp)
      have HB00 := Lib.hid hb0; have HK5 := Lib.hid hk5
      clear hb0 hk5 hW0
      have B0 : ∀ w', Below W0.heap.size W0 w' → w'.cell? ⟨wo.heap.size, 0, none⟩ = some (.int .i64 kk) := fun w' hw' => (cell_of_row _ _ 0 _ _ _ ((hw'.block wo.heap.size (by have := HSZ.out; omega)).trans HK5.out)).trans rfl
      have B1 : ∀ w', Below W0.heap.size W0 w' → w'.cell? ⟨wo.heap.size, 1, none⟩ = some (.int .i64 aa) := fun w' hw' => (cell_of_row _ _ 1 _ _ _ ((hw'.block wo.heap.size (by have := HSZ.out; omega)).trans HK5.out)).trans rfl
      have B2 : ∀ w', Below W0.heap.size W0 w' → w'.cell? ⟨wo.heap.size, 2, none⟩ = some (.string ss) := fun w' hw' => (cell_of_row _ _ 2 _ _ _ ((hw'.block wo.heap.size (by have := HSZ.out; omega)).trans HK5.out)).trans rfl
      have B3 : ∀ w', Below W0.heap.size W0 w' → w'.cell? ⟨wo.heap.size, 3, none⟩ = some (.slice A3 nv cv) := fun w' hw' => (cell_of_row _ _ 3 _ _ _ ((hw'.block wo.heap.size (by have := HSZ.out; omega)).trans HK5.out)).trans rfl
      have B9 : ∀ w', Below W0.heap.size W0 w' → w'.cell? ⟨wo.heap.size, 9, none⟩ = some (vp) := fun w' hw' => (cell_of_row _ _ 9 _ _ _ ((hw'.block wo.heap.size (by have := HSZ.out; omega)).trans HK5.out)).trans rfl
      have R5 : Hid (∀ w', Below W0.heap.size W0 w' → w'.rangeAt wo.heap.size 5 [t0, t1, t2, t3]) := Lib.hid (fun w' hw' => rg_left (b := [vp, b0, b1, b2, b3, b4, b5, b6, b7]) (rg_right (a := [.int .i64 kk, .int .i64 aa, .string ss, .slice A3 nv cv, .slice A4 nc cc]) (n := 5) (o := 0) (fun j v hv => by rw [Nat.zero_add, cell_of_row w' _ _ _ _ _ ((hw'.block wo.heap.size (by have := HSZ.out; omega)).trans HK5.out), List.getElem?_toArray]; exact hv) rfl))
      have R10 : Hid (∀ w', Below W0.heap.size W0 w' → w'.rangeAt wo.heap.size 10 [b0, b1, b2, b3, b4, b5, b6, b7]) := Lib.hid (fun w' hw' => rg_right (a := [.int .i64 kk, .int .i64 aa, .string ss, .slice A3 nv cv, .slice A4 nc cc, t0, t1, t2, t3, vp]) (n := 10) (o := 0) (fun j v hv => by rw [Nat.zero_add, cell_of_row w' _ _ _ _ _ ((hw'.block wo.heap.size (by have := HSZ.out; omega)).trans HK5.out), List.getElem?_toArray]; exact hv) rfl)
      have IT := Lib.hid (show (Try.prog.info? 162).map (·.size) = some ([t0, t1, t2, t3] : List Value).length from Try.irT)
      have IE := Lib.hid (show (Try.prog.info? 86).map (·.size) = some ([b0, b1, b2, b3, b4, b5, b6, b7] : List Value).length from Try.irE)
      obtain ⟨gs, hgs, hgs0, hgss, hgsb⟩ := info_parts Try.infoS
      try simp only [Act.put]
      go_cut [6] (fun s6 wc => ∃ (g6 : Nat) (Av : Option Addr) (cw : Nat) (u0 u1 : Int) (u2 : ByteArray) (u3 : Value) (Aq : Option Addr) (cq2 : Nat) (f0 f1 : Int) (f2 : ByteArray) (f3 : Int) (f4 f5 f6 f7 : Value), s6 = .pointer (some ⟨g6, 0, none⟩) ∧ Hid (DeAt wo #[.int .i64 kk, .int .i64 aa, .string ss, .slice A3 nv cv, .slice A4 nc cc, t0, t1, t2, t3, vp, b0, b1, b2, b3, b4, b5, b6, b7] vars ty pats body g6 #[.int .i64 kk, .int .i64 aa, .string ss, .slice Av nv cw, .slice none 0 0, .int .i64 u0, .int .i64 u1, .string u2, u3, .slice Aq pats.length cq2, .int .i64 f0, .int .i64 f1, .string f2, .int .i64 f3, f4, f5, f6, f7] (.slice Av nv cw) [.int .i64 u0, .int .i64 u1, .string u2, u3] (.slice Aq pats.length cq2) [.int .i64 f0, .int .i64 f1, .string f2, .int .i64 f3, f4, f5, f6, f7] wc))
      case first =>
          refine wp_region_held_drew (S := fun w' => Below W0.heap.size W0 w') (by kernel_rfl) (Below.drew (Below.refl _ _)) (fun hHeld => ?_)
          refine wpAnyH_take (i := 0) (v := ?_) rfl (by kernel_rfl) (by kernel_rfl) (by kernel_rfl) (fun _ _ _ h => h) (Or.inl ⟨by rfl, ?_⟩) hHeld ?_
          rotate_left
          · (intro wS hSw; (try dsimp only at hSw); go_simp; try with_reducible rfl)
          (try simp only [Act.put, List.getElem_toArray, List.getElem_cons_zero, List.getElem_cons_succ, List.setIfInBounds_toArray, List.set_cons_zero, List.set_cons_succ])
          refine wpAnyH_take (i := 1) (v := ?_) rfl (by kernel_rfl) (by kernel_rfl) (by kernel_rfl) (fun _ _ _ h => h) (Or.inl ⟨by rfl, ?_⟩) hHeld ?_
          rotate_left
          · (intro wS hSw; (try dsimp only at hSw); go_simp; try with_reducible rfl)
          (try simp only [Act.put, List.getElem_toArray, List.getElem_cons_zero, List.getElem_cons_succ, List.setIfInBounds_toArray, List.set_cons_zero, List.set_cons_succ])
          refine wpAnyH_take (i := 2) (v := ?_) rfl (by kernel_rfl) (by kernel_rfl) (by kernel_rfl) (fun _ _ _ h => h) (Or.inl ⟨by rfl, ?_⟩) hHeld ?_
          rotate_left
          · (intro wS hSw; (try dsimp only at hSw); go_simp; try with_reducible rfl)
          (try simp only [Act.put, List.getElem_toArray, List.getElem_cons_zero, List.getElem_cons_succ, List.setIfInBounds_toArray, List.set_cons_zero, List.set_cons_succ])
          refine wpAnyH_take (i := 3) (v := ?_) rfl (by kernel_rfl) (by kernel_rfl) (by kernel_rfl) (fun _ _ _ h => h) (Or.inl ⟨by rfl, ?_⟩) hHeld ?_
          rotate_left
          · (intro wS hSw; (try dsimp only at hSw); go_simp; try with_reducible rfl)
          (try simp only [Act.put, List.getElem_toArray, List.getElem_cons_zero, List.getElem_cons_succ, List.setIfInBounds_toArray, List.set_cons_zero, List.set_cons_succ])
          refine wpAnyH_take (i := 4) (v := ?_) rfl (by kernel_rfl) (by kernel_rfl) (by kernel_rfl) (fun _ _ _ h => h) (Or.inl ⟨by rfl, ?_⟩) hHeld ?_
          rotate_left
          · (intro wS hSw; (try dsimp only at hSw); go_simp; try with_reducible rfl)
          (try simp only [Act.put, List.getElem_toArray, List.getElem_cons_zero, List.getElem_cons_succ, List.setIfInBounds_toArray, List.set_cons_zero, List.set_cons_succ])
          refine wpAnyH_take (i := 5) (v := ?_) rfl (by kernel_rfl) (by kernel_rfl) (by kernel_rfl) (fun _ _ _ h => h) (Or.inl ⟨by rfl, ?_⟩) hHeld ?_
          rotate_left
          · (intro wS hSw; (try dsimp only at hSw); go_simp; try with_reducible rfl)
          (try simp only [Act.put, List.getElem_toArray, List.getElem_cons_zero, List.getElem_cons_succ, List.setIfInBounds_toArray, List.set_cons_zero, List.set_cons_succ])
          refine wpAnyH_take (i := 7) (v := ?_) rfl (by kernel_rfl) (by kernel_rfl) (by kernel_rfl) (fun _ _ _ h => h) (Or.inl ⟨by rfl, ?_⟩) hHeld ?_
          rotate_left
          · (intro wS hSw; (try dsimp only at hSw); go_simp; try with_reducible rfl)
          (try simp only [Act.put, List.getElem_toArray, List.getElem_cons_zero, List.getElem_cons_succ, List.setIfInBounds_toArray, List.set_cons_zero, List.set_cons_succ])
          refine wpAnyH_take (i := 8) (v := ?_) rfl (by kernel_rfl) (by kernel_rfl) (by kernel_rfl) (fun _ _ _ h => h) (Or.inl ⟨by rfl, ?_⟩) hHeld ?_
          rotate_left
          · (intro wS hSw; (try dsimp only at hSw); go_simp; try with_reducible rfl)
          (try simp only [Act.put, List.getElem_toArray, List.getElem_cons_zero, List.getElem_cons_succ, List.setIfInBounds_toArray, List.set_cons_zero, List.set_cons_succ])
          refine wpAnyH_take (i := 10) (v := ?_) rfl (by kernel_rfl) (by kernel_rfl) (by kernel_rfl) (fun _ _ _ h => h) (Or.inl ⟨by rfl, ?_⟩) hHeld ?_
          rotate_left
          · (intro wS hSw; (try dsimp only at hSw); go_simp; try with_reducible rfl)
          (try simp only [Act.put, List.getElem_toArray, List.getElem_cons_zero, List.getElem_cons_succ, List.setIfInBounds_toArray, List.set_cons_zero, List.set_cons_succ])
          refine wpAnyH_take (i := 11) rfl (by kernel_rfl) (by kernel_rfl) (by kernel_rfl) (fun _ _ _ h => h) (yieldsIf_load_mid (by rfl) 162 (.tmp 28) rfl wo.heap.size (5) rfl ([t0, t1, t2, t3]) _ R5.out Try.underlying162 rfl IT.out) hHeld ?_
          (try simp only [Act.put, List.getElem_toArray, List.getElem_cons_zero, List.getElem_cons_succ, List.setIfInBounds_toArray, List.set_cons_zero, List.set_cons_succ])
          refine wpAnyH_take (i := 13) (v := ?_) rfl (by kernel_rfl) (by kernel_rfl) (by kernel_rfl) (fun _ _ _ h => h) (Or.inl ⟨by rfl, ?_⟩) hHeld ?_
          rotate_left
          · (intro wS hSw; (try dsimp only at hSw); go_simp; try with_reducible rfl)
          (try simp only [Act.put, List.getElem_toArray, List.getElem_cons_zero, List.getElem_cons_succ, List.setIfInBounds_toArray, List.set_cons_zero, List.set_cons_succ])
          refine wpAnyH_take (i := 14) (v := ?_) rfl (by kernel_rfl) (by kernel_rfl) (by kernel_rfl) (fun _ _ _ h => h) (Or.inl ⟨by rfl, ?_⟩) hHeld ?_
          rotate_left
          · (intro wS hSw; (try dsimp only at hSw); go_simp; try with_reducible rfl)
          (try simp only [Act.put, List.getElem_toArray, List.getElem_cons_zero, List.getElem_cons_succ, List.setIfInBounds_toArray, List.set_cons_zero, List.set_cons_succ])
          refine wpAnyH_take (i := 16) (v := ?_) rfl (by kernel_rfl) (by kernel_rfl) (by kernel_rfl) (fun _ _ _ h => h) (Or.inl ⟨by rfl, ?_⟩) hHeld ?_
          rotate_left
          · (intro wS hSw; (try dsimp only at hSw); go_simp; try with_reducible rfl)
          (try simp only [Act.put, List.getElem_toArray, List.getElem_cons_zero, List.getElem_cons_succ, List.setIfInBounds_toArray, List.set_cons_zero, List.set_cons_succ])
          refine wpAnyH_take (i := 17) rfl (by kernel_rfl) (by kernel_rfl) (by kernel_rfl) (fun _ _ _ h => h) (yieldsIf_load_mid (by rfl) 86 (.tmp 34) rfl wo.heap.size (10) rfl ([b0, b1, b2, b3, b4, b5, b6, b7]) _ R10.out Try.underlying86 rfl IE.out) hHeld ?_
          (try simp only [Act.put, List.getElem_toArray, List.getElem_cons_zero, List.getElem_cons_succ, List.setIfInBounds_toArray, List.set_cons_zero, List.set_cons_succ])
          refine wpAnyH_ready (rs := [6, 20]) (by kernel_rfl) (by simp) ?_
          refine AllReadyH.cons rfl (fun K hK => ?_) (AllReadyH.cons rfl (fun K hK => ?_) AllReadyH.nil)
          · (try simp only [List.getElem_toArray, List.getElem_cons_zero, List.getElem_cons_succ, List.setIfInBounds_toArray, List.set_cons_zero, List.set_cons_succ])
            try go_simp
            refine hK.out _ _ ?_ (fun hHeld => ?_)
            · exact (bl_al (Below.drew (Below.refl _ _)) (.cells #[] 9)).mono (Nat.le_refl _)
            (try simp only [Act.put, List.getElem_toArray, List.getElem_cons_zero, List.getElem_cons_succ, List.setIfInBounds_toArray, List.set_cons_zero, List.set_cons_succ])
            refine wpAnyH_ready (rs := [9, 20]) (by kernel_rfl) (by simp) ?_
            refine AllReadyH.cons rfl (fun K hK => ?_) (AllReadyH.cons rfl (fun K hK => ?_) AllReadyH.nil)
            · skip
              refine step_append_copy rfl (.tmp 24) (.tmp 26) 158 rfl W0.heap.size 9 gs (.string { data := #[] }) 1 16 Try.underlying158 hgs hgs0 hgss hgsb rfl (by decide) ⟨W0.heap.size, rfl, bk_new W0.drew _ _ (W0.heap.size) (by simp), by omega⟩ A3 nv cv (vars.map Value.string) rfl (by simp; exact HNV.out.symm) (strs_news HVA.out HNV.out (bl_tr HB00.out (bl_al (Below.drew (Below.refl _ _)) (.cells #[] 9)))) (by simp [Value.oneCell']) (by unfold maxLen; omega) (by omega) ((bl_al (Below.drew (Below.refl _ _)) (.cells #[] 9)).size) ?_
              intro Av cw w3 hown3 hbb
              have HT3 := Lib.hid hown3; have HBw3 : Hid (Below (W0.drew.alloc (.cells #[] 9)).heap.size (W0.drew.alloc (.cells #[] 9)) w3) := Lib.hid hbb
              clear hown3 hbb
              refine hK.out _ _ ?_ (fun hHeld => ?_)
              · exact (bl_tr (bl_al (Below.drew (Below.refl _ _)) (.cells #[] 9)) HBw3.out).mono (Nat.le_refl _)
              (try simp only [Act.put, List.getElem_toArray, List.getElem_cons_zero, List.getElem_cons_succ, List.setIfInBounds_toArray, List.set_cons_zero, List.set_cons_succ])
              refine wpAnyH_ready (rs := [12, 20]) (by kernel_rfl) (by simp) ?_
              refine AllReadyH.cons rfl (fun K hK => ?_) (AllReadyH.cons rfl (fun K hK => ?_) AllReadyH.nil)
              · (try simp only [List.getElem_toArray, List.getElem_cons_zero, List.getElem_cons_succ, List.setIfInBounds_toArray, List.set_cons_zero, List.set_cons_succ])
                try go_simp
                refine (K3.out _ (bl_tr HB00.out (bl_tr (bl_al (Below.drew (Below.refl _ _)) (.cells #[] 9)) HBw3.out))).mono ?_
                rintro e w4 ⟨cq, rfl, hb2, hT⟩
                obtain ⟨u0, u1, u2, u3, rfl⟩ := hT.sh
                have HTw4 : Hid (TyC (memX w4 (w3.heap.size ≤ ·)) ty [.int .i64 u0, .int .i64 u1, .string u2, u3]) := Lib.hid hT
                have HBw4 : Hid (Below w3.heap.size w3 w4) := Lib.hid hb2
                clear hb2 hT
                try go_simp
                refine hK.out _ _ ?_ (fun hHeld => ?_)
                · exact (bl_tr (bl_tr (bl_al (Below.drew (Below.refl _ _)) (.cells #[] 9)) HBw3.out) HBw4.out).mono (Nat.le_refl _)
                (try simp only [Act.put, List.getElem_toArray, List.getElem_cons_zero, List.getElem_cons_succ, List.setIfInBounds_toArray, List.set_cons_zero, List.set_cons_succ])
                refine wpAnyH_ready (rs := [15, 20]) (by kernel_rfl) (by simp) ?_
                refine AllReadyH.cons rfl (fun K hK => ?_) (AllReadyH.cons rfl (fun K hK => ?_) AllReadyH.nil)
                · (try simp only [List.getElem_toArray, List.getElem_cons_zero, List.getElem_cons_succ, List.setIfInBounds_toArray, List.set_cons_zero, List.set_cons_succ])
                  try go_simp
                  refine (K4.out _ (bl_tr HB00.out (bl_tr (bl_tr (bl_al (Below.drew (Below.refl _ _)) (.cells #[] 9)) HBw3.out) HBw4.out))).mono ?_
                  rintro e w5 ⟨cq, rfl, hb2, hT⟩
                  obtain ⟨Aq, cq2, Cq, rfl, hcp, hAp, hCp⟩ := hT; have hT : PtsV (memX w5 (_ ≤ ·)) pats (.slice Aq pats.length cq2) := ⟨Aq, cq2, Cq, rfl, hcp, hAp, hCp⟩; clear hcp hAp hCp
                  have HTw5 : Hid (PtsV (memX w5 (w4.heap.size ≤ ·)) pats (.slice Aq pats.length cq2)) := Lib.hid hT
                  have HBw5 : Hid (Below w4.heap.size w4 w5) := Lib.hid hb2
                  clear hb2 hT
                  try go_simp
                  refine hK.out _ _ ?_ (fun hHeld => ?_)
                  · exact (bl_tr (bl_tr (bl_tr (bl_al (Below.drew (Below.refl _ _)) (.cells #[] 9)) HBw3.out) HBw4.out) HBw5.out).mono (Nat.le_refl _)
                  (try simp only [Act.put, List.getElem_toArray, List.getElem_cons_zero, List.getElem_cons_succ, List.setIfInBounds_toArray, List.set_cons_zero, List.set_cons_succ])
                  refine wpAnyH_ready (rs := [18, 20]) (by kernel_rfl) (by simp) ?_
                  refine AllReadyH.cons rfl (fun K hK => ?_) (AllReadyH.cons rfl (fun K hK => ?_) AllReadyH.nil)
                  · (try simp only [List.getElem_toArray, List.getElem_cons_zero, List.getElem_cons_succ, List.setIfInBounds_toArray, List.set_cons_zero, List.set_cons_succ])
                    try go_simp
                    refine (K5.out _ (bl_tr HB00.out (bl_tr (bl_tr (bl_tr (bl_al (Below.drew (Below.refl _ _)) (.cells #[] 9)) HBw3.out) HBw4.out) HBw5.out))).mono ?_
                    rintro e w6 ⟨cq, rfl, hb2, hT⟩
                    obtain ⟨f0, f1, f2, f3, f4, f5, f6, f7, rfl⟩ := hT.sh
                    have HTw6 : Hid (ExC (memX w6 (w5.heap.size ≤ ·)) body [.int .i64 f0, .int .i64 f1, .string f2, .int .i64 f3, f4, f5, f6, f7]) := Lib.hid hT
                    have HBw6 : Hid (Below w5.heap.size w5 w6) := Lib.hid hb2
                    clear hb2 hT
                    try go_simp
                    refine hK.out _ _ ?_ (fun hHeld => ?_)
                    · exact (bl_tr (bl_tr (bl_tr (bl_tr (bl_al (Below.drew (Below.refl _ _)) (.cells #[] 9)) HBw3.out) HBw4.out) HBw5.out) HBw6.out).mono (Nat.le_refl _)
                    (try simp only [Act.put, List.getElem_toArray, List.getElem_cons_zero, List.getElem_cons_succ, List.setIfInBounds_toArray, List.set_cons_zero, List.set_cons_succ])
                    refine wpAnyH_take (i := 19) (v := ?_) rfl (by kernel_rfl) (by kernel_rfl) (by kernel_rfl) (fun _ _ _ h => h) (Or.inl ⟨by rfl, ?_⟩) hHeld ?_
                    rotate_left
                    · (intro wS hSw; (try dsimp only at hSw); go_simp; try with_reducible rfl)
                    (try simp only [Act.put, List.getElem_toArray, List.getElem_cons_zero, List.getElem_cons_succ, List.setIfInBounds_toArray, List.set_cons_zero, List.set_cons_succ])
                    refine wpAnyH_ready (rs := [20]) (by kernel_rfl) (by simp) ?_
                    refine AllReadyH.cons rfl (fun K hK => ?_) AllReadyH.nil
                    · (try simp only [List.getElem_toArray, List.getElem_cons_zero, List.getElem_cons_succ, List.setIfInBounds_toArray, List.set_cons_zero, List.set_cons_succ])
                      try go_simp
                      refine hK.out _ _ ?_ (fun hHeld => ?_)
                      · exact (bl_al (bl_tr (bl_tr (bl_tr (bl_tr (bl_al (Below.drew (Below.refl _ _)) (.cells #[] 9)) HBw3.out) HBw4.out) HBw5.out) HBw6.out) (.cells #[.int .i64 0, .int .i64 0, .string { data := #[] }, .slice none 0 0, .slice none 0 0, .int .i64 0, .int .i64 0, .string { data := #[] }, .slice none 0 0, .slice none 0 0, .int .i64 0, .int .i64 0, .string { data := #[] }, .int .i64 0, .slice none 0 0, .slice none 0 0, .slice none 0 0, .slice none 0 0] 171)).mono (Nat.le_refl _)
                      (try simp only [Act.put, List.getElem_toArray, List.getElem_cons_zero, List.getElem_cons_succ, List.setIfInBounds_toArray, List.set_cons_zero, List.set_cons_succ])
                      refine wpAnyH_ready (rs := [21]) (by kernel_rfl) (by simp) ?_
                      refine AllReadyH.cons rfl (fun K hK => ?_) AllReadyH.nil
                      · skip
                        refine step_store_row rfl 171 (.tmp 6) (.tmp 37) rfl (w6.heap.size) rfl #[.int .i64 kk, .int .i64 aa, .string ss, .slice Av nv cw, .slice none 0 0, .int .i64 u0, .int .i64 u1, .string u2, u3, .slice Aq pats.length cq2, .int .i64 f0, .int .i64 f1, .string f2, .int .i64 f3, f4, f5, f6, f7] rfl _ (bk_new w6 _ _ (w6.heap.size) (by simp)) Try.riDecl rfl (own_ok HTw4.out.ok (pts_ok HTw5.out) HTw6.out.ok) ?_
                        refine hK.out _ _ ?_ (fun hHeld => ?_)
                        · exact below_setRow (bl_al (bl_tr (bl_tr (bl_tr (bl_tr (bl_al (Below.drew (Below.refl _ _)) (.cells #[] 9)) HBw3.out) HBw4.out) HBw5.out) HBw6.out) (.cells #[.int .i64 0, .int .i64 0, .string { data := #[] }, .slice none 0 0, .slice none 0 0, .int .i64 0, .int .i64 0, .string { data := #[] }, .slice none 0 0, .slice none 0 0, .int .i64 0, .int .i64 0, .string { data := #[] }, .int .i64 0, .slice none 0 0, .slice none 0 0, .slice none 0 0, .slice none 0 0] 171)) (by have zw3 : W0.heap.size + 1 ≤ w3.heap.size := (by have := HBw3.out.size; simpa using this); have zw4 : w3.heap.size ≤ w4.heap.size := (by have := HBw4.out.size; simpa using this); have zw5 : w4.heap.size ≤ w5.heap.size := (by have := HBw5.out.size; simpa using this); have zw6 : w5.heap.size ≤ w6.heap.size := (by have := HBw6.out.size; simpa using this); omega) _
                        (try simp only [Act.put, List.getElem_toArray, List.getElem_cons_zero, List.getElem_cons_succ, List.setIfInBounds_toArray, List.set_cons_zero, List.set_cons_succ])
                        refine wpAnyH_done (by kernel_rfl) ?_ _
                        have zw3 : W0.heap.size + 1 ≤ w3.heap.size := by have := HBw3.out.size; simpa using this
                        have zw4 : w3.heap.size ≤ w4.heap.size := by have := HBw4.out.size; simpa using this
                        have zw5 : w4.heap.size ≤ w5.heap.size := by have := HBw5.out.size; simpa using this
                        have zw6 : w5.heap.size ≤ w6.heap.size := by have := HBw6.out.size; simpa using this
                        have hz0 := HSZ.out
                        have hbel := bl_tr HB00.out (bl_al (bl_tr (bl_tr (bl_tr (bl_tr (bl_al (Below.drew (Below.refl _ _)) (.cells #[] 9)) HBw3.out) HBw4.out) HBw5.out) HBw6.out) (.cells #[.int .i64 0, .int .i64 0, .string { data := #[] }, .slice none 0 0, .slice none 0 0, .int .i64 0, .int .i64 0, .string { data := #[] }, .slice none 0 0, .slice none 0 0, .int .i64 0, .int .i64 0, .string { data := #[] }, .int .i64 0, .slice none 0 0, .slice none 0 0, .slice none 0 0, .slice none 0 0] 171))
                        have hbox := (bl_al (bl_tr (bl_tr (bl_tr (bl_tr (bl_al (Below.drew (Below.refl _ _)) (.cells #[] 9)) HBw3.out) HBw4.out) HBw5.out) HBw6.out) (.cells #[.int .i64 0, .int .i64 0, .string { data := #[] }, .slice none 0 0, .slice none 0 0, .int .i64 0, .int .i64 0, .string { data := #[] }, .slice none 0 0, .slice none 0 0, .int .i64 0, .int .i64 0, .string { data := #[] }, .int .i64 0, .slice none 0 0, .slice none 0 0, .slice none 0 0, .slice none 0 0] 171)).block wo.heap.size (by omega)
                        have hg6 : wo.heap.size + 1 ≤ w6.heap.size := by omega
                        go_wp2_with fail
                        go_meet
                        case rel =>
                          exact ⟨w6.heap.size, Av, cw, u0, u1, u2, u3, Aq, cq2, f0, f1, f2, f3, f4, f5, f6, f7, rfl, Lib.hid ⟨below_setRow hbel (by omega) _, (setRow_other _ _ _ _ (by omega)).trans (hbox.trans HK5.out), setRow_heap _ _ _ _ _ _ (bk_new w6 _ _ (w6.heap.size) (by simp)), hg6, (strs_own HT3.out HNV.out (Y := fun g => W0.heap.size ≤ g) (fun g hg cur hc => hg)).mono (memX_le_X fun g hg hx => ⟨⟨by omega, by omega⟩, (setRow_other _ _ _ _ (by omega)).trans ((bl_al (bl_tr (bl_tr (bl_tr (Below.refl _ _) HBw4.out) HBw5.out) HBw6.out) (.cells #[.int .i64 0, .int .i64 0, .string { data := #[] }, .slice none 0 0, .slice none 0 0, .int .i64 0, .int .i64 0, .string { data := #[] }, .slice none 0 0, .slice none 0 0, .int .i64 0, .int .i64 0, .string { data := #[] }, .int .i64 0, .slice none 0 0, .slice none 0 0, .slice none 0 0, .slice none 0 0] 171) : Below w3.heap.size w3 _).block g hg)⟩), HTw4.out.mono (memX_le_X (fun g hg hx => ⟨⟨by (try simp at hx); omega, by (try simp at hx); omega⟩, (setRow_other _ _ _ _ (by (try simp at hx); omega)).trans ((bl_al (bl_tr (bl_tr (Below.refl _ _) HBw5.out) HBw6.out) (.cells #[.int .i64 0, .int .i64 0, .string { data := #[] }, .slice none 0 0, .slice none 0 0, .int .i64 0, .int .i64 0, .string { data := #[] }, .slice none 0 0, .slice none 0 0, .int .i64 0, .int .i64 0, .string { data := #[] }, .int .i64 0, .slice none 0 0, .slice none 0 0, .slice none 0 0, .slice none 0 0] 171) : Below w4.heap.size w4 _).block g hg)⟩)), HTw5.out.mono' (memX_le_X (fun g hg hx => ⟨⟨by (try simp at hx); omega, by (try simp at hx); omega⟩, (setRow_other _ _ _ _ (by (try simp at hx); omega)).trans ((bl_al (bl_tr (Below.refl _ _) HBw6.out) (.cells #[.int .i64 0, .int .i64 0, .string { data := #[] }, .slice none 0 0, .slice none 0 0, .int .i64 0, .int .i64 0, .string { data := #[] }, .slice none 0 0, .slice none 0 0, .int .i64 0, .int .i64 0, .string { data := #[] }, .int .i64 0, .slice none 0 0, .slice none 0 0, .slice none 0 0, .slice none 0 0] 171) : Below w5.heap.size w5 _).block g hg)⟩)), HTw6.out.mono (memX_le_X (fun g hg hx => ⟨⟨by (try simp at hx); omega, by (try simp at hx); omega⟩, (setRow_other _ _ _ _ (by (try simp at hx); omega)).trans ((bl_al (Below.refl _ _) (.cells #[.int .i64 0, .int .i64 0, .string { data := #[] }, .slice none 0 0, .slice none 0 0, .int .i64 0, .int .i64 0, .string { data := #[] }, .slice none 0 0, .slice none 0 0, .int .i64 0, .int .i64 0, .string { data := #[] }, .int .i64 0, .slice none 0 0, .slice none 0 0, .slice none 0 0, .slice none 0 0] 171) : Below w6.heap.size w6 _).block g hg)⟩)), own_ok HTw4.out.ok (pts_ok HTw5.out) HTw6.out.ok⟩⟩
                  · (try simp only [List.getElem_toArray, List.getElem_cons_zero, List.getElem_cons_succ, List.setIfInBounds_toArray, List.set_cons_zero, List.set_cons_succ])
                    try go_simp
                    refine hK.out _ _ ?_ (fun hHeld => ?_)
                    · exact (bl_al (bl_tr (bl_tr (bl_tr (bl_al (Below.drew (Below.refl _ _)) (.cells #[] 9)) HBw3.out) HBw4.out) HBw5.out) (.cells #[.int .i64 0, .int .i64 0, .string { data := #[] }, .slice none 0 0, .slice none 0 0, .int .i64 0, .int .i64 0, .string { data := #[] }, .slice none 0 0, .slice none 0 0, .int .i64 0, .int .i64 0, .string { data := #[] }, .int .i64 0, .slice none 0 0, .slice none 0 0, .slice none 0 0, .slice none 0 0] 171)).mono (Nat.le_refl _)
                    (try simp only [Act.put, List.getElem_toArray, List.getElem_cons_zero, List.getElem_cons_succ, List.setIfInBounds_toArray, List.set_cons_zero, List.set_cons_succ])
                    refine wpAnyH_ready (rs := [18]) (by kernel_rfl) (by simp) ?_
                    refine AllReadyH.cons rfl (fun K hK => ?_) AllReadyH.nil
                    · (try simp only [List.getElem_toArray, List.getElem_cons_zero, List.getElem_cons_succ, List.setIfInBounds_toArray, List.set_cons_zero, List.set_cons_succ])
                      try go_simp
                      refine (K5.out _ (bl_tr HB00.out (bl_al (bl_tr (bl_tr (bl_tr (bl_al (Below.drew (Below.refl _ _)) (.cells #[] 9)) HBw3.out) HBw4.out) HBw5.out) (.cells #[.int .i64 0, .int .i64 0, .string { data := #[] }, .slice none 0 0, .slice none 0 0, .int .i64 0, .int .i64 0, .string { data := #[] }, .slice none 0 0, .slice none 0 0, .int .i64 0, .int .i64 0, .string { data := #[] }, .int .i64 0, .slice none 0 0, .slice none 0 0, .slice none 0 0, .slice none 0 0] 171)))).mono ?_
                      rintro e w6 ⟨cq, rfl, hb2, hT⟩
                      obtain ⟨f0, f1, f2, f3, f4, f5, f6, f7, rfl⟩ := hT.sh
                      have HTw6 : Hid (ExC (memX w6 ((w5.alloc (.cells #[.int .i64 0, .int .i64 0, .string { data := #[] }, .slice none 0 0, .slice none 0 0, .int .i64 0, .int .i64 0, .string { data := #[] }, .slice none 0 0, .slice none 0 0, .int .i64 0, .int .i64 0, .string { data := #[] }, .int .i64 0, .slice none 0 0, .slice none 0 0, .slice none 0 0, .slice none 0 0] 171)).heap.size ≤ ·)) body [.int .i64 f0, .int .i64 f1, .string f2, .int .i64 f3, f4, f5, f6, f7]) := Lib.hid hT
                      have HBw6 : Hid (Below (w5.alloc (.cells #[.int .i64 0, .int .i64 0, .string { data := #[] }, .slice none 0 0, .slice none 0 0, .int .i64 0, .int .i64 0, .string { data := #[] }, .slice none 0 0, .slice none 0 0, .int .i64 0, .int .i64 0, .string { data := #[] }, .int .i64 0, .slice none 0 0, .slice none 0 0, .slice none 0 0, .slice none 0 0] 171)).heap.size (w5.alloc (.cells #[.int .i64 0, .int .i64 0, .string { data := #[] }, .slice none 0 0, .slice none 0 0, .int .i64 0, .int .i64 0, .string { data := #[] }, .slice none 0 0, .slice none 0 0, .int .i64 0, .int .i64 0, .string { data := #[] }, .int .i64 0, .slice none 0 0, .slice none 0 0, .slice none 0 0, .slice none 0 0] 171)) w6) := Lib.hid hb2
                      clear hb2 hT
                      try go_simp
                      refine hK.out _ _ ?_ (fun hHeld => ?_)
                      · exact (bl_tr (bl_al (bl_tr (bl_tr (bl_tr (bl_al (Below.drew (Below.refl _ _)) (.cells #[] 9)) HBw3.out) HBw4.out) HBw5.out) (.cells #[.int .i64 0, .int .i64 0, .string { data := #[] }, .slice none 0 0, .slice none 0 0, .int .i64 0, .int .i64 0, .string { data := #[] }, .slice none 0 0, .slice none 0 0, .int .i64 0, .int .i64 0, .string { data := #[] }, .int .i64 0, .slice none 0 0, .slice none 0 0, .slice none 0 0, .slice none 0 0] 171)) HBw6.out).mono (Nat.le_refl _)
                      (try simp only [Act.put, List.getElem_toArray, List.getElem_cons_zero, List.getElem_cons_succ, List.setIfInBounds_toArray, List.set_cons_zero, List.set_cons_succ])
                      refine wpAnyH_take (i := 19) (v := ?_) rfl (by kernel_rfl) (by kernel_rfl) (by kernel_rfl) (fun _ _ _ h => h) (Or.inl ⟨by rfl, ?_⟩) hHeld ?_
                      rotate_left
                      · (intro wS hSw; (try dsimp only at hSw); go_simp; try with_reducible rfl)
                      (try simp only [Act.put, List.getElem_toArray, List.getElem_cons_zero, List.getElem_cons_succ, List.setIfInBounds_toArray, List.set_cons_zero, List.set_cons_succ])
                      refine wpAnyH_ready (rs := [21]) (by kernel_rfl) (by simp) ?_
                      refine AllReadyH.cons rfl (fun K hK => ?_) AllReadyH.nil
                      · skip
                        refine step_store_row rfl 171 (.tmp 6) (.tmp 37) rfl (w5.heap.size) rfl #[.int .i64 kk, .int .i64 aa, .string ss, .slice Av nv cw, .slice none 0 0, .int .i64 u0, .int .i64 u1, .string u2, u3, .slice Aq pats.length cq2, .int .i64 f0, .int .i64 f1, .string f2, .int .i64 f3, f4, f5, f6, f7] rfl _ (bk_below (bk_new w5 _ _ (w5.heap.size) (by simp)) HBw6.out) Try.riDecl rfl (own_ok HTw4.out.ok (pts_ok HTw5.out) HTw6.out.ok) ?_
                        refine hK.out _ _ ?_ (fun hHeld => ?_)
                        · exact below_setRow (bl_tr (bl_al (bl_tr (bl_tr (bl_tr (bl_al (Below.drew (Below.refl _ _)) (.cells #[] 9)) HBw3.out) HBw4.out) HBw5.out) (.cells #[.int .i64 0, .int .i64 0, .string { data := #[] }, .slice none 0 0, .slice none 0 0, .int .i64 0, .int .i64 0, .string { data := #[] }, .slice none 0 0, .slice none 0 0, .int .i64 0, .int .i64 0, .string { data := #[] }, .int .i64 0, .slice none 0 0, .slice none 0 0, .slice none 0 0, .slice none 0 0] 171)) HBw6.out) (by have zw3 : W0.heap.size + 1 ≤ w3.heap.size := (by have := HBw3.out.size; simpa using this); have zw4 : w3.heap.size ≤ w4.heap.size := (by have := HBw4.out.size; simpa using this); have zw5 : w4.heap.size ≤ w5.heap.size := (by have := HBw5.out.size; simpa using this); have zw6 : w5.heap.size + 1 ≤ w6.heap.size := (by have := HBw6.out.size; simpa using this); omega) _
                        (try simp only [Act.put, List.getElem_toArray, List.getElem_cons_zero, List.getElem_cons_succ, List.setIfInBounds_toArray, List.set_cons_zero, List.set_cons_succ])
                        refine wpAnyH_done (by kernel_rfl) ?_ _
                        have zw3 : W0.heap.size + 1 ≤ w3.heap.size := by have := HBw3.out.size; simpa using this
                        have zw4 : w3.heap.size ≤ w4.heap.size := by have := HBw4.out.size; simpa using this
                        have zw5 : w4.heap.size ≤ w5.heap.size := by have := HBw5.out.size; simpa using this
                        have zw6 : w5.heap.size + 1 ≤ w6.heap.size := by have := HBw6.out.size; simpa using this
                        have hz0 := HSZ.out
                        have hbel := bl_tr HB00.out (bl_tr (bl_al (bl_tr (bl_tr (bl_tr (bl_al (Below.drew (Below.refl _ _)) (.cells #[] 9)) HBw3.out) HBw4.out) HBw5.out) (.cells #[.int .i64 0, .int .i64 0, .string { data := #[] }, .slice none 0 0, .slice none 0 0, .int .i64 0, .int .i64 0, .string { data := #[] }, .slice none 0 0, .slice none 0 0, .int .i64 0, .int .i64 0, .string { data := #[] }, .int .i64 0, .slice none 0 0, .slice none 0 0, .slice none 0 0, .slice none 0 0] 171)) HBw6.out)
                        have hbox := (bl_tr (bl_al (bl_tr (bl_tr (bl_tr (bl_al (Below.drew (Below.refl _ _)) (.cells #[] 9)) HBw3.out) HBw4.out) HBw5.out) (.cells #[.int .i64 0, .int .i64 0, .string { data := #[] }, .slice none 0 0, .slice none 0 0, .int .i64 0, .int .i64 0, .string { data := #[] }, .slice none 0 0, .slice none 0 0, .int .i64 0, .int .i64 0, .string { data := #[] }, .int .i64 0, .slice none 0 0, .slice none 0 0, .slice none 0 0, .slice none 0 0] 171)) HBw6.out).block wo.heap.size (by omega)
                        have hg6 : wo.heap.size + 1 ≤ w5.heap.size := by omega
                        go_wp2_with fail
                        go_meet
                        case rel =>
                          exact ⟨w5.heap.size, Av, cw, u0, u1, u2, u3, Aq, cq2, f0, f1, f2, f3, f4, f5, f6, f7, rfl, Lib.hid ⟨below_setRow hbel (by omega) _, (setRow_other _ _ _ _ (by omega)).trans (hbox.trans HK5.out), setRow_heap _ _ _ _ _ _ (bk_below (bk_new w5 _ _ (w5.heap.size) (by simp)) HBw6.out), hg6, (strs_own HT3.out HNV.out (Y := fun g => W0.heap.size ≤ g) (fun g hg cur hc => hg)).mono (memX_le_X fun g hg hx => ⟨⟨by omega, by omega⟩, (setRow_other _ _ _ _ (by omega)).trans ((bl_tr (bl_al (bl_tr (bl_tr (Below.refl _ _) HBw4.out) HBw5.out) (.cells #[.int .i64 0, .int .i64 0, .string { data := #[] }, .slice none 0 0, .slice none 0 0, .int .i64 0, .int .i64 0, .string { data := #[] }, .slice none 0 0, .slice none 0 0, .int .i64 0, .int .i64 0, .string { data := #[] }, .int .i64 0, .slice none 0 0, .slice none 0 0, .slice none 0 0, .slice none 0 0] 171)) HBw6.out : Below w3.heap.size w3 _).block g hg)⟩), HTw4.out.mono (memX_le_X (fun g hg hx => ⟨⟨by (try simp at hx); omega, by (try simp at hx); omega⟩, (setRow_other _ _ _ _ (by (try simp at hx); omega)).trans ((bl_tr (bl_al (bl_tr (Below.refl _ _) HBw5.out) (.cells #[.int .i64 0, .int .i64 0, .string { data := #[] }, .slice none 0 0, .slice none 0 0, .int .i64 0, .int .i64 0, .string { data := #[] }, .slice none 0 0, .slice none 0 0, .int .i64 0, .int .i64 0, .string { data := #[] }, .int .i64 0, .slice none 0 0, .slice none 0 0, .slice none 0 0, .slice none 0 0] 171)) HBw6.out : Below w4.heap.size w4 _).block g hg)⟩)), HTw5.out.mono' (memX_le_X (fun g hg hx => ⟨⟨by (try simp at hx); omega, by (try simp at hx); omega⟩, (setRow_other _ _ _ _ (by (try simp at hx); omega)).trans ((bl_tr (bl_al (Below.refl _ _) (.cells #[.int .i64 0, .int .i64 0, .string { data := #[] }, .slice none 0 0, .slice none 0 0, .int .i64 0, .int .i64 0, .string { data := #[] }, .slice none 0 0, .slice none 0 0, .int .i64 0, .int .i64 0, .string { data := #[] }, .int .i64 0, .slice none 0 0, .slice none 0 0, .slice none 0 0, .slice none 0 0] 171)) HBw6.out : Below w5.heap.size w5 _).block g hg)⟩)), HTw6.out.mono (memX_le_X (fun g hg hx => ⟨⟨by (try simp at hx); omega, by (try simp at hx); omega⟩, (setRow_other _ _ _ _ (by (try simp at hx); omega)).trans ((Below.refl _ _ : Below w6.heap.size w6 _).block g hg)⟩)), own_ok HTw4.out.ok (pts_ok HTw5.out) HTw6.out.ok⟩⟩
                · (try simp only [List.getElem_toArray, List.getElem_cons_zero, List.getElem_cons_succ, List.setIfInBounds_toArray, List.set_cons_zero, List.set_cons_succ])
                  try go_simp
                  refine hK.out _ _ ?_ (fun hHeld => ?_)
                  · exact (bl_al (bl_tr (bl_tr (bl_al (Below.drew (Below.refl _ _)) (.cells #[] 9)) HBw3.out) HBw4.out) (.cells #[.int .i64 0, .int .i64 0, .string { data := #[] }, .slice none 0 0, .slice none 0 0, .int .i64 0, .int .i64 0, .string { data := #[] }, .slice none 0 0, .slice none 0 0, .int .i64 0, .int .i64 0, .string { data := #[] }, .int .i64 0, .slice none 0 0, .slice none 0 0, .slice none 0 0, .slice none 0 0] 171)).mono (Nat.le_refl _)
                  (try simp only [Act.put, List.getElem_toArray, List.getElem_cons_zero, List.getElem_cons_succ, List.setIfInBounds_toArray, List.set_cons_zero, List.set_cons_succ])
                  refine wpAnyH_ready (rs := [15]) (by kernel_rfl) (by simp) ?_
                  refine AllReadyH.cons rfl (fun K hK => ?_) AllReadyH.nil
                  · (try simp only [List.getElem_toArray, List.getElem_cons_zero, List.getElem_cons_succ, List.setIfInBounds_toArray, List.set_cons_zero, List.set_cons_succ])
                    try go_simp
                    refine (K4.out _ (bl_tr HB00.out (bl_al (bl_tr (bl_tr (bl_al (Below.drew (Below.refl _ _)) (.cells #[] 9)) HBw3.out) HBw4.out) (.cells #[.int .i64 0, .int .i64 0, .string { data := #[] }, .slice none 0 0, .slice none 0 0, .int .i64 0, .int .i64 0, .string { data := #[] }, .slice none 0 0, .slice none 0 0, .int .i64 0, .int .i64 0, .string { data := #[] }, .int .i64 0, .slice none 0 0, .slice none 0 0, .slice none 0 0, .slice none 0 0] 171)))).mono ?_
                    rintro e w5 ⟨cq, rfl, hb2, hT⟩
                    obtain ⟨Aq, cq2, Cq, rfl, hcp, hAp, hCp⟩ := hT; have hT : PtsV (memX w5 (_ ≤ ·)) pats (.slice Aq pats.length cq2) := ⟨Aq, cq2, Cq, rfl, hcp, hAp, hCp⟩; clear hcp hAp hCp
                    have HTw5 : Hid (PtsV (memX w5 ((w4.alloc (.cells #[.int .i64 0, .int .i64 0, .string { data := #[] }, .slice none 0 0, .slice none 0 0, .int .i64 0, .int .i64 0, .string { data := #[] }, .slice none 0 0, .slice none 0 0, .int .i64 0, .int .i64 0, .string { data := #[] }, .int .i64 0, .slice none 0 0, .slice none 0 0, .slice none 0 0, .slice none 0 0] 171)).heap.size ≤ ·)) pats (.slice Aq pats.length cq2)) := Lib.hid hT
                    have HBw5 : Hid (Below (w4.alloc (.cells #[.int .i64 0, .int .i64 0, .string { data := #[] }, .slice none 0 0, .slice none 0 0, .int .i64 0, .int .i64 0, .string { data := #[] }, .slice none 0 0, .slice none 0 0, .int .i64 0, .int .i64 0, .string { data := #[] }, .int .i64 0, .slice none 0 0, .slice none 0 0, .slice none 0 0, .slice none 0 0] 171)).heap.size (w4.alloc (.cells #[.int .i64 0, .int .i64 0, .string { data := #[] }, .slice none 0 0, .slice none 0 0, .int .i64 0, .int .i64 0, .string { data := #[] }, .slice none 0 0, .slice none 0 0, .int .i64 0, .int .i64 0, .string { data := #[] }, .int .i64 0, .slice none 0 0, .slice none 0 0, .slice none 0 0, .slice none 0 0] 171)) w5) := Lib.hid hb2
                    clear hb2 hT
                    try go_simp
                    refine hK.out _ _ ?_ (fun hHeld => ?_)
                    · exact (bl_tr (bl_al (bl_tr (bl_tr (bl_al (Below.drew (Below.refl _ _)) (.cells #[] 9)) HBw3.out) HBw4.out) (.cells #[.int .i64 0, .int .i64 0, .string { data := #[] }, .slice none 0 0, .slice none 0 0, .int .i64 0, .int .i64 0, .string { data := #[] }, .slice none 0 0, .slice none 0 0, .int .i64 0, .int .i64 0, .string { data := #[] }, .int .i64 0, .slice none 0 0, .slice none 0 0, .slice none 0 0, .slice none 0 0] 171)) HBw5.out).mono (Nat.le_refl _)
                    (try simp only [Act.put, List.getElem_toArray, List.getElem_cons_zero, List.getElem_cons_succ, List.setIfInBounds_toArray, List.set_cons_zero, List.set_cons_succ])
                    refine wpAnyH_ready (rs := [18]) (by kernel_rfl) (by simp) ?_
                    refine AllReadyH.cons rfl (fun K hK => ?_) AllReadyH.nil
                    · (try simp only [List.getElem_toArray, List.getElem_cons_zero, List.getElem_cons_succ, List.setIfInBounds_toArray, List.set_cons_zero, List.set_cons_succ])
                      try go_simp
                      refine (K5.out _ (bl_tr HB00.out (bl_tr (bl_al (bl_tr (bl_tr (bl_al (Below.drew (Below.refl _ _)) (.cells #[] 9)) HBw3.out) HBw4.out) (.cells #[.int .i64 0, .int .i64 0, .string { data := #[] }, .slice none 0 0, .slice none 0 0, .int .i64 0, .int .i64 0, .string { data := #[] }, .slice none 0 0, .slice none 0 0, .int .i64 0, .int .i64 0, .string { data := #[] }, .int .i64 0, .slice none 0 0, .slice none 0 0, .slice none 0 0, .slice none 0 0] 171)) HBw5.out))).mono ?_
                      rintro e w6 ⟨cq, rfl, hb2, hT⟩
                      obtain ⟨f0, f1, f2, f3, f4, f5, f6, f7, rfl⟩ := hT.sh
                      have HTw6 : Hid (ExC (memX w6 (w5.heap.size ≤ ·)) body [.int .i64 f0, .int .i64 f1, .string f2, .int .i64 f3, f4, f5, f6, f7]) := Lib.hid hT
                      have HBw6 : Hid (Below w5.heap.size w5 w6) := Lib.hid hb2
                      clear hb2 hT
                      try go_simp
                      refine hK.out _ _ ?_ (fun hHeld => ?_)
                      · exact (bl_tr (bl_tr (bl_al (bl_tr (bl_tr (bl_al (Below.drew (Below.refl _ _)) (.cells #[] 9)) HBw3.out) HBw4.out) (.cells #[.int .i64 0, .int .i64 0, .string { data := #[] }, .slice none 0 0, .slice none 0 0, .int .i64 0, .int .i64 0, .string { data := #[] }, .slice none 0 0, .slice none 0 0, .int .i64 0, .int .i64 0, .string { data := #[] }, .int .i64 0, .slice none 0 0, .slice none 0 0, .slice none 0 0, .slice none 0 0] 171)) HBw5.out) HBw6.out).mono (Nat.le_refl _)
                      (try simp only [Act.put, List.getElem_toArray, List.getElem_cons_zero, List.getElem_cons_succ, List.setIfInBounds_toArray, List.set_cons_zero, List.set_cons_succ])
                      refine wpAnyH_take (i := 19) (v := ?_) rfl (by kernel_rfl) (by kernel_rfl) (by kernel_rfl) (fun _ _ _ h => h) (Or.inl ⟨by rfl, ?_⟩) hHeld ?_
                      rotate_left
                      · (intro wS hSw; (try dsimp only at hSw); go_simp; try with_reducible rfl)
                      (try simp only [Act.put, List.getElem_toArray, List.getElem_cons_zero, List.getElem_cons_succ, List.setIfInBounds_toArray, List.set_cons_zero, List.set_cons_succ])
                      refine wpAnyH_ready (rs := [21]) (by kernel_rfl) (by simp) ?_
                      refine AllReadyH.cons rfl (fun K hK => ?_) AllReadyH.nil
                      · skip
                        refine step_store_row rfl 171 (.tmp 6) (.tmp 37) rfl (w4.heap.size) rfl #[.int .i64 kk, .int .i64 aa, .string ss, .slice Av nv cw, .slice none 0 0, .int .i64 u0, .int .i64 u1, .string u2, u3, .slice Aq pats.length cq2, .int .i64 f0, .int .i64 f1, .string f2, .int .i64 f3, f4, f5, f6, f7] rfl _ (bk_below (bk_below (bk_new w4 _ _ (w4.heap.size) (by simp)) HBw5.out) HBw6.out) Try.riDecl rfl (own_ok HTw4.out.ok (pts_ok HTw5.out) HTw6.out.ok) ?_
                        refine hK.out _ _ ?_ (fun hHeld => ?_)
                        · exact below_setRow (bl_tr (bl_tr (bl_al (bl_tr (bl_tr (bl_al (Below.drew (Below.refl _ _)) (.cells #[] 9)) HBw3.out) HBw4.out) (.cells #[.int .i64 0, .int .i64 0, .string { data := #[] }, .slice none 0 0, .slice none 0 0, .int .i64 0, .int .i64 0, .string { data := #[] }, .slice none 0 0, .slice none 0 0, .int .i64 0, .int .i64 0, .string { data := #[] }, .int .i64 0, .slice none 0 0, .slice none 0 0, .slice none 0 0, .slice none 0 0] 171)) HBw5.out) HBw6.out) (by have zw3 : W0.heap.size + 1 ≤ w3.heap.size := (by have := HBw3.out.size; simpa using this); have zw4 : w3.heap.size ≤ w4.heap.size := (by have := HBw4.out.size; simpa using this); have zw5 : w4.heap.size + 1 ≤ w5.heap.size := (by have := HBw5.out.size; simpa using this); have zw6 : w5.heap.size ≤ w6.heap.size := (by have := HBw6.out.size; simpa using this); omega) _
                        (try simp only [Act.put, List.getElem_toArray, List.getElem_cons_zero, List.getElem_cons_succ, List.setIfInBounds_toArray, List.set_cons_zero, List.set_cons_succ])
                        refine wpAnyH_done (by kernel_rfl) ?_ _
                        have zw3 : W0.heap.size + 1 ≤ w3.heap.size := by have := HBw3.out.size; simpa using this
                        have zw4 : w3.heap.size ≤ w4.heap.size := by have := HBw4.out.size; simpa using this
                        have zw5 : w4.heap.size + 1 ≤ w5.heap.size := by have := HBw5.out.size; simpa using this
                        have zw6 : w5.heap.size ≤ w6.heap.size := by have := HBw6.out.size; simpa using this
                        have hz0 := HSZ.out
                        have hbel := bl_tr HB00.out (bl_tr (bl_tr (bl_al (bl_tr (bl_tr (bl_al (Below.drew (Below.refl _ _)) (.cells #[] 9)) HBw3.out) HBw4.out) (.cells #[.int .i64 0, .int .i64 0, .string { data := #[] }, .slice none 0 0, .slice none 0 0, .int .i64 0, .int .i64 0, .string { data := #[] }, .slice none 0 0, .slice none 0 0, .int .i64 0, .int .i64 0, .string { data := #[] }, .int .i64 0, .slice none 0 0, .slice none 0 0, .slice none 0 0, .slice none 0 0] 171)) HBw5.out) HBw6.out)
                        have hbox := (bl_tr (bl_tr (bl_al (bl_tr (bl_tr (bl_al (Below.drew (Below.refl _ _)) (.cells #[] 9)) HBw3.out) HBw4.out) (.cells #[.int .i64 0, .int .i64 0, .string { data := #[] }, .slice none 0 0, .slice none 0 0, .int .i64 0, .int .i64 0, .string { data := #[] }, .slice none 0 0, .slice none 0 0, .int .i64 0, .int .i64 0, .string { data := #[] }, .int .i64 0, .slice none 0 0, .slice none 0 0, .slice none 0 0, .slice none 0 0] 171)) HBw5.out) HBw6.out).block wo.heap.size (by omega)
                        have hg6 : wo.heap.size + 1 ≤ w4.heap.size := by omega
                        go_wp2_with fail
                        go_meet
                        case rel =>
                          exact ⟨w4.heap.size, Av, cw, u0, u1, u2, u3, Aq, cq2, f0, f1, f2, f3, f4, f5, f6, f7, rfl, Lib.hid ⟨below_setRow hbel (by omega) _, (setRow_other _ _ _ _ (by omega)).trans (hbox.trans HK5.out), setRow_heap _ _ _ _ _ _ (bk_below (bk_below (bk_new w4 _ _ (w4.heap.size) (by simp)) HBw5.out) HBw6.out), hg6, (strs_own HT3.out HNV.out (Y := fun g => W0.heap.size ≤ g) (fun g hg cur hc => hg)).mono (memX_le_X fun g hg hx => ⟨⟨by omega, by omega⟩, (setRow_other _ _ _ _ (by omega)).trans ((bl_tr (bl_tr (bl_al (bl_tr (Below.refl _ _) HBw4.out) (.cells #[.int .i64 0, .int .i64 0, .string { data := #[] }, .slice none 0 0, .slice none 0 0, .int .i64 0, .int .i64 0, .string { data := #[] }, .slice none 0 0, .slice none 0 0, .int .i64 0, .int .i64 0, .string { data := #[] }, .int .i64 0, .slice none 0 0, .slice none 0 0, .slice none 0 0, .slice none 0 0] 171)) HBw5.out) HBw6.out : Below w3.heap.size w3 _).block g hg)⟩), HTw4.out.mono (memX_le_X (fun g hg hx => ⟨⟨by (try simp at hx); omega, by (try simp at hx); omega⟩, (setRow_other _ _ _ _ (by (try simp at hx); omega)).trans ((bl_tr (bl_tr (bl_al (Below.refl _ _) (.cells #[.int .i64 0, .int .i64 0, .string { data := #[] }, .slice none 0 0, .slice none 0 0, .int .i64 0, .int .i64 0, .string { data := #[] }, .slice none 0 0, .slice none 0 0, .int .i64 0, .int .i64 0, .string { data := #[] }, .int .i64 0, .slice none 0 0, .slice none 0 0, .slice none 0 0, .slice none 0 0] 171)) HBw5.out) HBw6.out : Below w4.heap.size w4 _).block g hg)⟩)), HTw5.out.mono' (memX_le_X (fun g hg hx => ⟨⟨by (try simp at hx); omega, by (try simp at hx); omega⟩, (setRow_other _ _ _ _ (by (try simp at hx); omega)).trans ((bl_tr (Below.refl _ _) HBw6.out : Below w5.heap.size w5 _).block g hg)⟩)), HTw6.out.mono (memX_le_X (fun g hg hx => ⟨⟨by (try simp at hx); omega, by (try simp at hx); omega⟩, (setRow_other _ _ _ _ (by (try simp at hx); omega)).trans ((Below.refl _ _ : Below w6.heap.size w6 _).block g hg)⟩)), own_ok HTw4.out.ok (pts_ok HTw5.out) HTw6.out.ok⟩⟩
              · (try simp only [List.getElem_toArray, List.getElem_cons_zero, List.getElem_cons_succ, List.setIfInBounds_toArray, List.set_cons_zero, List.set_cons_succ])
                try go_simp
                refine hK.out _ _ ?_ (fun hHeld => ?_)
                · exact (bl_al (bl_tr (bl_al (Below.drew (Below.refl _ _)) (.cells #[] 9)) HBw3.out) (.cells #[.int .i64 0, .int .i64 0, .string { data := #[] }, .slice none 0 0, .slice none 0 0, .int .i64 0, .int .i64 0, .string { data := #[] }, .slice none 0 0, .slice none 0 0, .int .i64 0, .int .i64 0, .string { data := #[] }, .int .i64 0, .slice none 0 0, .slice none 0 0, .slice none 0 0, .slice none 0 0] 171)).mono (Nat.le_refl _)
                (try simp only [Act.put, List.getElem_toArray, List.getElem_cons_zero, List.getElem_cons_succ, List.setIfInBounds_toArray, List.set_cons_zero, List.set_cons_succ])
                refine wpAnyH_ready (rs := [12]) (by kernel_rfl) (by simp) ?_
                refine AllReadyH.cons rfl (fun K hK => ?_) AllReadyH.nil
                · (try simp only [List.getElem_toArray, List.getElem_cons_zero, List.getElem_cons_succ, List.setIfInBounds_toArray, List.set_cons_zero, List.set_cons_succ])
                  try go_simp
                  refine (K3.out _ (bl_tr HB00.out (bl_al (bl_tr (bl_al (Below.drew (Below.refl _ _)) (.cells #[] 9)) HBw3.out) (.cells #[.int .i64 0, .int .i64 0, .string { data := #[] }, .slice none 0 0, .slice none 0 0, .int .i64 0, .int .i64 0, .string { data := #[] }, .slice none 0 0, .slice none 0 0, .int .i64 0, .int .i64 0, .string { data := #[] }, .int .i64 0, .slice none 0 0, .slice none 0 0, .slice none 0 0, .slice none 0 0] 171)))).mono ?_
                  rintro e w4 ⟨cq, rfl, hb2, hT⟩
                  obtain ⟨u0, u1, u2, u3, rfl⟩ := hT.sh
                  have HTw4 : Hid (TyC (memX w4 ((w3.alloc (.cells #[.int .i64 0, .int .i64 0, .string { data := #[] }, .slice none 0 0, .slice none 0 0, .int .i64 0, .int .i64 0, .string { data := #[] }, .slice none 0 0, .slice none 0 0, .int .i64 0, .int .i64 0, .string { data := #[] }, .int .i64 0, .slice none 0 0, .slice none 0 0, .slice none 0 0, .slice none 0 0] 171)).heap.size ≤ ·)) ty [.int .i64 u0, .int .i64 u1, .string u2, u3]) := Lib.hid hT
                  have HBw4 : Hid (Below (w3.alloc (.cells #[.int .i64 0, .int .i64 0, .string { data := #[] }, .slice none 0 0, .slice none 0 0, .int .i64 0, .int .i64 0, .string { data := #[] }, .slice none 0 0, .slice none 0 0, .int .i64 0, .int .i64 0, .string { data := #[] }, .int .i64 0, .slice none 0 0, .slice none 0 0, .slice none 0 0, .slice none 0 0] 171)).heap.size (w3.alloc (.cells #[.int .i64 0, .int .i64 0, .string { data := #[] }, .slice none 0 0, .slice none 0 0, .int .i64 0, .int .i64 0, .string { data := #[] }, .slice none 0 0, .slice none 0 0, .int .i64 0, .int .i64 0, .string { data := #[] }, .int .i64 0, .slice none 0 0, .slice none 0 0, .slice none 0 0, .slice none 0 0] 171)) w4) := Lib.hid hb2
                  clear hb2 hT
                  try go_simp
                  refine hK.out _ _ ?_ (fun hHeld => ?_)
                  · exact (bl_tr (bl_al (bl_tr (bl_al (Below.drew (Below.refl _ _)) (.cells #[] 9)) HBw3.out) (.cells #[.int .i64 0, .int .i64 0, .string { data := #[] }, .slice none 0 0, .slice none 0 0, .int .i64 0, .int .i64 0, .string { data := #[] }, .slice none 0 0, .slice none 0 0, .int .i64 0, .int .i64 0, .string { data := #[] }, .int .i64 0, .slice none 0 0, .slice none 0 0, .slice none 0 0, .slice none 0 0] 171)) HBw4.out).mono (Nat.le_refl _)
                  (try simp only [Act.put, List.getElem_toArray, List.getElem_cons_zero, List.getElem_cons_succ, List.setIfInBounds_toArray, List.set_cons_zero, List.set_cons_succ])
                  refine wpAnyH_ready (rs := [15]) (by kernel_rfl) (by simp) ?_
                  refine AllReadyH.cons rfl (fun K hK => ?_) AllReadyH.nil
                  · (try simp only [List.getElem_toArray, List.getElem_cons_zero, List.getElem_cons_succ, List.setIfInBounds_toArray, List.set_cons_zero, List.set_cons_succ])
                    try go_simp
                    refine (K4.out _ (bl_tr HB00.out (bl_tr (bl_al (bl_tr (bl_al (Below.drew (Below.refl _ _)) (.cells #[] 9)) HBw3.out) (.cells #[.int .i64 0, .int .i64 0, .string { data := #[] }, .slice none 0 0, .slice none 0 0, .int .i64 0, .int .i64 0, .string { data := #[] }, .slice none 0 0, .slice none 0 0, .int .i64 0, .int .i64 0, .string { data := #[] }, .int .i64 0, .slice none 0 0, .slice none 0 0, .slice none 0 0, .slice none 0 0] 171)) HBw4.out))).mono ?_
                    rintro e w5 ⟨cq, rfl, hb2, hT⟩
                    obtain ⟨Aq, cq2, Cq, rfl, hcp, hAp, hCp⟩ := hT; have hT : PtsV (memX w5 (_ ≤ ·)) pats (.slice Aq pats.length cq2) := ⟨Aq, cq2, Cq, rfl, hcp, hAp, hCp⟩; clear hcp hAp hCp
                    have HTw5 : Hid (PtsV (memX w5 (w4.heap.size ≤ ·)) pats (.slice Aq pats.length cq2)) := Lib.hid hT
                    have HBw5 : Hid (Below w4.heap.size w4 w5) := Lib.hid hb2
                    clear hb2 hT
                    try go_simp
                    refine hK.out _ _ ?_ (fun hHeld => ?_)
                    · exact (bl_tr (bl_tr (bl_al (bl_tr (bl_al (Below.drew (Below.refl _ _)) (.cells #[] 9)) HBw3.out) (.cells #[.int .i64 0, .int .i64 0, .string { data := #[] }, .slice none 0 0, .slice none 0 0, .int .i64 0, .int .i64 0, .string { data := #[] }, .slice none 0 0, .slice none 0 0, .int .i64 0, .int .i64 0, .string { data := #[] }, .int .i64 0, .slice none 0 0, .slice none 0 0, .slice none 0 0, .slice none 0 0] 171)) HBw4.out) HBw5.out).mono (Nat.le_refl _)
                    (try simp only [Act.put, List.getElem_toArray, List.getElem_cons_zero, List.getElem_cons_succ, List.setIfInBounds_toArray, List.set_cons_zero, List.set_cons_succ])
                    refine wpAnyH_ready (rs := [18]) (by kernel_rfl) (by simp) ?_
                    refine AllReadyH.cons rfl (fun K hK => ?_) AllReadyH.nil
                    · (try simp only [List.getElem_toArray, List.getElem_cons_zero, List.getElem_cons_succ, List.setIfInBounds_toArray, List.set_cons_zero, List.set_cons_succ])
                      try go_simp
                      refine (K5.out _ (bl_tr HB00.out (bl_tr (bl_tr (bl_al (bl_tr (bl_al (Below.drew (Below.refl _ _)) (.cells #[] 9)) HBw3.out) (.cells #[.int .i64 0, .int .i64 0, .string { data := #[] }, .slice none 0 0, .slice none 0 0, .int .i64 0, .int .i64 0, .string { data := #[] }, .slice none 0 0, .slice none 0 0, .int .i64 0, .int .i64 0, .string { data := #[] }, .int .i64 0, .slice none 0 0, .slice none 0 0, .slice none 0 0, .slice none 0 0] 171)) HBw4.out) HBw5.out))).mono ?_
                      rintro e w6 ⟨cq, rfl, hb2, hT⟩
                      obtain ⟨f0, f1, f2, f3, f4, f5, f6, f7, rfl⟩ := hT.sh
                      have HTw6 : Hid (ExC (memX w6 (w5.heap.size ≤ ·)) body [.int .i64 f0, .int .i64 f1, .string f2, .int .i64 f3, f4, f5, f6, f7]) := Lib.hid hT
                      have HBw6 : Hid (Below w5.heap.size w5 w6) := Lib.hid hb2
                      clear hb2 hT
                      try go_simp
                      refine hK.out _ _ ?_ (fun hHeld => ?_)
                      · exact (bl_tr (bl_tr (bl_tr (bl_al (bl_tr (bl_al (Below.drew (Below.refl _ _)) (.cells #[] 9)) HBw3.out) (.cells #[.int .i64 0, .int .i64 0, .string { data := #[] }, .slice none 0 0, .slice none 0 0, .int .i64 0, .int .i64 0, .string { data := #[] }, .slice none 0 0, .slice none 0 0, .int .i64 0, .int .i64 0, .string { data := #[] }, .int .i64 0, .slice none 0 0, .slice none 0 0, .slice none 0 0, .slice none 0 0] 171)) HBw4.out) HBw5.out) HBw6.out).mono (Nat.le_refl _)
                      (try simp only [Act.put, List.getElem_toArray, List.getElem_cons_zero, List.getElem_cons_succ, List.setIfInBounds_toArray, List.set_cons_zero, List.set_cons_succ])
                      refine wpAnyH_take (i := 19) (v := ?_) rfl (by kernel_rfl) (by kernel_rfl) (by kernel_rfl) (fun _ _ _ h => h) (Or.inl ⟨by rfl, ?_⟩) hHeld ?_
                      rotate_left
                      · (intro wS hSw; (try dsimp only at hSw); go_simp; try with_reducible rfl)
                      (try simp only [Act.put, List.getElem_toArray, List.getElem_cons_zero, List.getElem_cons_succ, List.setIfInBounds_toArray, List.set_cons_zero, List.set_cons_succ])
                      refine wpAnyH_ready (rs := [21]) (by kernel_rfl) (by simp) ?_
                      refine AllReadyH.cons rfl (fun K hK => ?_) AllReadyH.nil
                      · skip
                        refine step_store_row rfl 171 (.tmp 6) (.tmp 37) rfl (w3.heap.size) rfl #[.int .i64 kk, .int .i64 aa, .string ss, .slice Av nv cw, .slice none 0 0, .int .i64 u0, .int .i64 u1, .string u2, u3, .slice Aq pats.length cq2, .int .i64 f0, .int .i64 f1, .string f2, .int .i64 f3, f4, f5, f6, f7] rfl _ (bk_below (bk_below (bk_below (bk_new w3 _ _ (w3.heap.size) (by simp)) HBw4.out) HBw5.out) HBw6.out) Try.riDecl rfl (own_ok HTw4.out.ok (pts_ok HTw5.out) HTw6.out.ok) ?_
                        refine hK.out _ _ ?_ (fun hHeld => ?_)
                        · exact below_setRow (bl_tr (bl_tr (bl_tr (bl_al (bl_tr (bl_al (Below.drew (Below.refl _ _)) (.cells #[] 9)) HBw3.out) (.cells #[.int .i64 0, .int .i64 0, .string { data := #[] }, .slice none 0 0, .slice none 0 0, .int .i64 0, .int .i64 0, .string { data := #[] }, .slice none 0 0, .slice none 0 0, .int .i64 0, .int .i64 0, .string { data := #[] }, .int .i64 0, .slice none 0 0, .slice none 0 0, .slice none 0 0, .slice none 0 0] 171)) HBw4.out) HBw5.out) HBw6.out) (by have zw3 : W0.heap.size + 1 ≤ w3.heap.size := (by have := HBw3.out.size; simpa using this); have zw4 : w3.heap.size + 1 ≤ w4.heap.size := (by have := HBw4.out.size; simpa using this); have zw5 : w4.heap.size ≤ w5.heap.size := (by have := HBw5.out.size; simpa using this); have zw6 : w5.heap.size ≤ w6.heap.size := (by have := HBw6.out.size; simpa using this); omega) _
                        (try simp only [Act.put, List.getElem_toArray, List.getElem_cons_zero, List.getElem_cons_succ, List.setIfInBounds_toArray, List.set_cons_zero, List.set_cons_succ])
                        refine wpAnyH_done (by kernel_rfl) ?_ _
                        have zw3 : W0.heap.size + 1 ≤ w3.heap.size := by have := HBw3.out.size; simpa using this
                        have zw4 : w3.heap.size + 1 ≤ w4.heap.size := by have := HBw4.out.size; simpa using this
                        have zw5 : w4.heap.size ≤ w5.heap.size := by have := HBw5.out.size; simpa using this
                        have zw6 : w5.heap.size ≤ w6.heap.size := by have := HBw6.out.size; simpa using this
                        have hz0 := HSZ.out
                        have hbel := bl_tr HB00.out (bl_tr (bl_tr (bl_tr (bl_al (bl_tr (bl_al (Below.drew (Below.refl _ _)) (.cells #[] 9)) HBw3.out) (.cells #[.int .i64 0, .int .i64 0, .string { data := #[] }, .slice none 0 0, .slice none 0 0, .int .i64 0, .int .i64 0, .string { data := #[] }, .slice none 0 0, .slice none 0 0, .int .i64 0, .int .i64 0, .string { data := #[] }, .int .i64 0, .slice none 0 0, .slice none 0 0, .slice none 0 0, .slice none 0 0] 171)) HBw4.out) HBw5.out) HBw6.out)
                        have hbox := (bl_tr (bl_tr (bl_tr (bl_al (bl_tr (bl_al (Below.drew (Below.refl _ _)) (.cells #[] 9)) HBw3.out) (.cells #[.int .i64 0, .int .i64 0, .string { data := #[] }, .slice none 0 0, .slice none 0 0, .int .i64 0, .int .i64 0, .string { data := #[] }, .slice none 0 0, .slice none 0 0, .int .i64 0, .int .i64 0, .string { data := #[] }, .int .i64 0, .slice none 0 0, .slice none 0 0, .slice none 0 0, .slice none 0 0] 171)) HBw4.out) HBw5.out) HBw6.out).block wo.heap.size (by omega)
                        have hg6 : wo.heap.size + 1 ≤ w3.heap.size := by omega
                        go_wp2_with fail
                        go_meet
                        case rel =>
                          exact ⟨w3.heap.size, Av, cw, u0, u1, u2, u3, Aq, cq2, f0, f1, f2, f3, f4, f5, f6, f7, rfl, Lib.hid ⟨below_setRow hbel (by omega) _, (setRow_other _ _ _ _ (by omega)).trans (hbox.trans HK5.out), setRow_heap _ _ _ _ _ _ (bk_below (bk_below (bk_below (bk_new w3 _ _ (w3.heap.size) (by simp)) HBw4.out) HBw5.out) HBw6.out), hg6, (strs_own HT3.out HNV.out (Y := fun g => W0.heap.size ≤ g) (fun g hg cur hc => hg)).mono (memX_le_X fun g hg hx => ⟨⟨by omega, by omega⟩, (setRow_other _ _ _ _ (by omega)).trans ((bl_tr (bl_tr (bl_tr (bl_al (Below.refl _ _) (.cells #[.int .i64 0, .int .i64 0, .string { data := #[] }, .slice none 0 0, .slice none 0 0, .int .i64 0, .int .i64 0, .string { data := #[] }, .slice none 0 0, .slice none 0 0, .int .i64 0, .int .i64 0, .string { data := #[] }, .int .i64 0, .slice none 0 0, .slice none 0 0, .slice none 0 0, .slice none 0 0] 171)) HBw4.out) HBw5.out) HBw6.out : Below w3.heap.size w3 _).block g hg)⟩), HTw4.out.mono (memX_le_X (fun g hg hx => ⟨⟨by (try simp at hx); omega, by (try simp at hx); omega⟩, (setRow_other _ _ _ _ (by (try simp at hx); omega)).trans ((bl_tr (bl_tr (Below.refl _ _) HBw5.out) HBw6.out : Below w4.heap.size w4 _).block g hg)⟩)), HTw5.out.mono' (memX_le_X (fun g hg hx => ⟨⟨by (try simp at hx); omega, by (try simp at hx); omega⟩, (setRow_other _ _ _ _ (by (try simp at hx); omega)).trans ((bl_tr (Below.refl _ _) HBw6.out : Below w5.heap.size w5 _).block g hg)⟩)), HTw6.out.mono (memX_le_X (fun g hg hx => ⟨⟨by (try simp at hx); omega, by (try simp at hx); omega⟩, (setRow_other _ _ _ _ (by (try simp at hx); omega)).trans ((Below.refl _ _ : Below w6.heap.size w6 _).block g hg)⟩)), own_ok HTw4.out.ok (pts_ok HTw5.out) HTw6.out.ok⟩⟩
            · (try simp only [List.getElem_toArray, List.getElem_cons_zero, List.getElem_cons_succ, List.setIfInBounds_toArray, List.set_cons_zero, List.set_cons_succ])
              try go_simp
              refine hK.out _ _ ?_ (fun hHeld => ?_)
              · exact (bl_al (bl_al (Below.drew (Below.refl _ _)) (.cells #[] 9)) (.cells #[.int .i64 0, .int .i64 0, .string { data := #[] }, .slice none 0 0, .slice none 0 0, .int .i64 0, .int .i64 0, .string { data := #[] }, .slice none 0 0, .slice none 0 0, .int .i64 0, .int .i64 0, .string { data := #[] }, .int .i64 0, .slice none 0 0, .slice none 0 0, .slice none 0 0, .slice none 0 0] 171)).mono (Nat.le_refl _)
              (try simp only [Act.put, List.getElem_toArray, List.getElem_cons_zero, List.getElem_cons_succ, List.setIfInBounds_toArray, List.set_cons_zero, List.set_cons_succ])
              refine wpAnyH_ready (rs := [9]) (by kernel_rfl) (by simp) ?_
              refine AllReadyH.cons rfl (fun K hK => ?_) AllReadyH.nil
              · skip
                refine step_append_copy rfl (.tmp 24) (.tmp 26) 158 rfl W0.heap.size 9 gs (.string { data := #[] }) 1 16 Try.underlying158 hgs hgs0 hgss hgsb rfl (by decide) ⟨W0.heap.size, rfl, bk_alloc (bk_new W0.drew _ _ (W0.heap.size) (by simp)) _, by omega⟩ A3 nv cv (vars.map Value.string) rfl (by simp; exact HNV.out.symm) (strs_news HVA.out HNV.out (bl_tr HB00.out (bl_al (bl_al (Below.drew (Below.refl _ _)) (.cells #[] 9)) (.cells #[.int .i64 0, .int .i64 0, .string { data := #[] }, .slice none 0 0, .slice none 0 0, .int .i64 0, .int .i64 0, .string { data := #[] }, .slice none 0 0, .slice none 0 0, .int .i64 0, .int .i64 0, .string { data := #[] }, .int .i64 0, .slice none 0 0, .slice none 0 0, .slice none 0 0, .slice none 0 0] 171)))) (by simp [Value.oneCell']) (by unfold maxLen; omega) (by omega) ((bl_al (bl_al (Below.drew (Below.refl _ _)) (.cells #[] 9)) (.cells #[.int .i64 0, .int .i64 0, .string { data := #[] }, .slice none 0 0, .slice none 0 0, .int .i64 0, .int .i64 0, .string { data := #[] }, .slice none 0 0, .slice none 0 0, .int .i64 0, .int .i64 0, .string { data := #[] }, .int .i64 0, .slice none 0 0, .slice none 0 0, .slice none 0 0, .slice none 0 0] 171)).size) ?_
                intro Av cw w3 hown3 hbb
                have HT3 := Lib.hid hown3; have HBw3 : Hid (Below ((W0.drew.alloc (.cells #[] 9)).alloc (.cells #[.int .i64 0, .int .i64 0, .string { data := #[] }, .slice none 0 0, .slice none 0 0, .int .i64 0, .int .i64 0, .string { data := #[] }, .slice none 0 0, .slice none 0 0, .int .i64 0, .int .i64 0, .string { data := #[] }, .int .i64 0, .slice none 0 0, .slice none 0 0, .slice none 0 0, .slice none 0 0] 171)).heap.size ((W0.drew.alloc (.cells #[] 9)).alloc (.cells #[.int .i64 0, .int .i64 0, .string { data := #[] }, .slice none 0 0, .slice none 0 0, .int .i64 0, .int .i64 0, .string { data := #[] }, .slice none 0 0, .slice none 0 0, .int .i64 0, .int .i64 0, .string { data := #[] }, .int .i64 0, .slice none 0 0, .slice none 0 0, .slice none 0 0, .slice none 0 0] 171)) w3) := Lib.hid hbb
                clear hown3 hbb
                refine hK.out _ _ ?_ (fun hHeld => ?_)
                · exact (bl_tr (bl_al (bl_al (Below.drew (Below.refl _ _)) (.cells #[] 9)) (.cells #[.int .i64 0, .int .i64 0, .string { data := #[] }, .slice none 0 0, .slice none 0 0, .int .i64 0, .int .i64 0, .string { data := #[] }, .slice none 0 0, .slice none 0 0, .int .i64 0, .int .i64 0, .string { data := #[] }, .int .i64 0, .slice none 0 0, .slice none 0 0, .slice none 0 0, .slice none 0 0] 171)) HBw3.out).mono (Nat.le_refl _)
                (try simp only [Act.put, List.getElem_toArray, List.getElem_cons_zero, List.getElem_cons_succ, List.setIfInBounds_toArray, List.set_cons_zero, List.set_cons_succ])
                refine wpAnyH_ready (rs := [12]) (by kernel_rfl) (by simp) ?_
                refine AllReadyH.cons rfl (fun K hK => ?_) AllReadyH.nil
                · (try simp only [List.getElem_toArray, List.getElem_cons_zero, List.getElem_cons_succ, List.setIfInBounds_toArray, List.set_cons_zero, List.set_cons_succ])
                  try go_simp
                  refine (K3.out _ (bl_tr HB00.out (bl_tr (bl_al (bl_al (Below.drew (Below.refl _ _)) (.cells #[] 9)) (.cells #[.int .i64 0, .int .i64 0, .string { data := #[] }, .slice none 0 0, .slice none 0 0, .int .i64 0, .int .i64 0, .string { data := #[] }, .slice none 0 0, .slice none 0 0, .int .i64 0, .int .i64 0, .string { data := #[] }, .int .i64 0, .slice none 0 0, .slice none 0 0, .slice none 0 0, .slice none 0 0] 171)) HBw3.out))).mono ?_
                  rintro e w4 ⟨cq, rfl, hb2, hT⟩
                  obtain ⟨u0, u1, u2, u3, rfl⟩ := hT.sh
                  have HTw4 : Hid (TyC (memX w4 (w3.heap.size ≤ ·)) ty [.int .i64 u0, .int .i64 u1, .string u2, u3]) := Lib.hid hT
                  have HBw4 : Hid (Below w3.heap.size w3 w4) := Lib.hid hb2
                  clear hb2 hT
                  try go_simp
                  refine hK.out _ _ ?_ (fun hHeld => ?_)
                  · exact (bl_tr (bl_tr (bl_al (bl_al (Below.drew (Below.refl _ _)) (.cells #[] 9)) (.cells #[.int .i64 0, .int .i64 0, .string { data := #[] }, .slice none 0 0, .slice none 0 0, .int .i64 0, .int .i64 0, .string { data := #[] }, .slice none 0 0, .slice none 0 0, .int .i64 0, .int .i64 0, .string { data := #[] }, .int .i64 0, .slice none 0 0, .slice none 0 0, .slice none 0 0, .slice none 0 0] 171)) HBw3.out) HBw4.out).mono (Nat.le_refl _)
                  (try simp only [Act.put, List.getElem_toArray, List.getElem_cons_zero, List.getElem_cons_succ, List.setIfInBounds_toArray, List.set_cons_zero, List.set_cons_succ])
                  refine wpAnyH_ready (rs := [15]) (by kernel_rfl) (by simp) ?_
                  refine AllReadyH.cons rfl (fun K hK => ?_) AllReadyH.nil
                  · (try simp only [List.getElem_toArray, List.getElem_cons_zero, List.getElem_cons_succ, List.setIfInBounds_toArray, List.set_cons_zero, List.set_cons_succ])
                    try go_simp
                    refine (K4.out _ (bl_tr HB00.out (bl_tr (bl_tr (bl_al (bl_al (Below.drew (Below.refl _ _)) (.cells #[] 9)) (.cells #[.int .i64 0, .int .i64 0, .string { data := #[] }, .slice none 0 0, .slice none 0 0, .int .i64 0, .int .i64 0, .string { data := #[] }, .slice none 0 0, .slice none 0 0, .int .i64 0, .int .i64 0, .string { data := #[] }, .int .i64 0, .slice none 0 0, .slice none 0 0, .slice none 0 0, .slice none 0 0] 171)) HBw3.out) HBw4.out))).mono ?_
                    rintro e w5 ⟨cq, rfl, hb2, hT⟩
                    obtain ⟨Aq, cq2, Cq, rfl, hcp, hAp, hCp⟩ := hT; have hT : PtsV (memX w5 (_ ≤ ·)) pats (.slice Aq pats.length cq2) := ⟨Aq, cq2, Cq, rfl, hcp, hAp, hCp⟩; clear hcp hAp hCp
                    have HTw5 : Hid (PtsV (memX w5 (w4.heap.size ≤ ·)) pats (.slice Aq pats.length cq2)) := Lib.hid hT
                    have HBw5 : Hid (Below w4.heap.size w4 w5) := Lib.hid hb2
                    clear hb2 hT
                    try go_simp
                    refine hK.out _ _ ?_ (fun hHeld => ?_)
                    · exact (bl_tr (bl_tr (bl_tr (bl_al (bl_al (Below.drew (Below.refl _ _)) (.cells #[] 9)) (.cells #[.int .i64 0, .int .i64 0, .string { data := #[] }, .slice none 0 0, .slice none 0 0, .int .i64 0, .int .i64 0, .string { data := #[] }, .slice none 0 0, .slice none 0 0, .int .i64 0, .int .i64 0, .string { data := #[] }, .int .i64 0, .slice none 0 0, .slice none 0 0, .slice none 0 0, .slice none 0 0] 171)) HBw3.out) HBw4.out) HBw5.out).mono (Nat.le_refl _)
                    (try simp only [Act.put, List.getElem_toArray, List.getElem_cons_zero, List.getElem_cons_succ, List.setIfInBounds_toArray, List.set_cons_zero, List.set_cons_succ])
                    refine wpAnyH_ready (rs := [18]) (by kernel_rfl) (by simp) ?_
                    refine AllReadyH.cons rfl (fun K hK => ?_) AllReadyH.nil
                    · (try simp only [List.getElem_toArray, List.getElem_cons_zero, List.getElem_cons_succ, List.setIfInBounds_toArray, List.set_cons_zero, List.set_cons_succ])
                      try go_simp
                      refine (K5.out _ (bl_tr HB00.out (bl_tr (bl_tr (bl_tr (bl_al (bl_al (Below.drew (Below.refl _ _)) (.cells #[] 9)) (.cells #[.int .i64 0, .int .i64 0, .string { data := #[] }, .slice none 0 0, .slice none 0 0, .int .i64 0, .int .i64 0, .string { data := #[] }, .slice none 0 0, .slice none 0 0, .int .i64 0, .int .i64 0, .string { data := #[] }, .int .i64 0, .slice none 0 0, .slice none 0 0, .slice none 0 0, .slice none 0 0] 171)) HBw3.out) HBw4.out) HBw5.out))).mono ?_
                      rintro e w6 ⟨cq, rfl, hb2, hT⟩
                      obtain ⟨f0, f1, f2, f3, f4, f5, f6, f7, rfl⟩ := hT.sh
                      have HTw6 : Hid (ExC (memX w6 (w5.heap.size ≤ ·)) body [.int .i64 f0, .int .i64 f1, .string f2, .int .i64 f3, f4, f5, f6, f7]) := Lib.hid hT
                      have HBw6 : Hid (Below w5.heap.size w5 w6) := Lib.hid hb2
                      clear hb2 hT
                      try go_simp
                      refine hK.out _ _ ?_ (fun hHeld => ?_)
                      · exact (bl_tr (bl_tr (bl_tr (bl_tr (bl_al (bl_al (Below.drew (Below.refl _ _)) (.cells #[] 9)) (.cells #[.int .i64 0, .int .i64 0, .string { data := #[] }, .slice none 0 0, .slice none 0 0, .int .i64 0, .int .i64 0, .string { data := #[] }, .slice none 0 0, .slice none 0 0, .int .i64 0, .int .i64 0, .string { data := #[] }, .int .i64 0, .slice none 0 0, .slice none 0 0, .slice none 0 0, .slice none 0 0] 171)) HBw3.out) HBw4.out) HBw5.out) HBw6.out).mono (Nat.le_refl _)
                      (try simp only [Act.put, List.getElem_toArray, List.getElem_cons_zero, List.getElem_cons_succ, List.setIfInBounds_toArray, List.set_cons_zero, List.set_cons_succ])
                      refine wpAnyH_take (i := 19) (v := ?_) rfl (by kernel_rfl) (by kernel_rfl) (by kernel_rfl) (fun _ _ _ h => h) (Or.inl ⟨by rfl, ?_⟩) hHeld ?_
                      rotate_left
                      · (intro wS hSw; (try dsimp only at hSw); go_simp; try with_reducible rfl)
                      (try simp only [Act.put, List.getElem_toArray, List.getElem_cons_zero, List.getElem_cons_succ, List.setIfInBounds_toArray, List.set_cons_zero, List.set_cons_succ])
                      refine wpAnyH_ready (rs := [21]) (by kernel_rfl) (by simp) ?_
                      refine AllReadyH.cons rfl (fun K hK => ?_) AllReadyH.nil
                      · skip
                        refine step_store_row rfl 171 (.tmp 6) (.tmp 37) rfl (W0.heap.size + 1) rfl #[.int .i64 kk, .int .i64 aa, .string ss, .slice Av nv cw, .slice none 0 0, .int .i64 u0, .int .i64 u1, .string u2, u3, .slice Aq pats.length cq2, .int .i64 f0, .int .i64 f1, .string f2, .int .i64 f3, f4, f5, f6, f7] rfl _ (bk_below (bk_below (bk_below (bk_below (bk_new (W0.drew.alloc (.cells #[] 9)) _ _ (W0.heap.size + 1) (by simp)) HBw3.out) HBw4.out) HBw5.out) HBw6.out) Try.riDecl rfl (own_ok HTw4.out.ok (pts_ok HTw5.out) HTw6.out.ok) ?_
                        refine hK.out _ _ ?_ (fun hHeld => ?_)
                        · exact below_setRow (bl_tr (bl_tr (bl_tr (bl_tr (bl_al (bl_al (Below.drew (Below.refl _ _)) (.cells #[] 9)) (.cells #[.int .i64 0, .int .i64 0, .string { data := #[] }, .slice none 0 0, .slice none 0 0, .int .i64 0, .int .i64 0, .string { data := #[] }, .slice none 0 0, .slice none 0 0, .int .i64 0, .int .i64 0, .string { data := #[] }, .int .i64 0, .slice none 0 0, .slice none 0 0, .slice none 0 0, .slice none 0 0] 171)) HBw3.out) HBw4.out) HBw5.out) HBw6.out) (by have zw3 : W0.heap.size + 1 + 1 ≤ w3.heap.size := (by have := HBw3.out.size; simpa using this); have zw4 : w3.heap.size ≤ w4.heap.size := (by have := HBw4.out.size; simpa using this); have zw5 : w4.heap.size ≤ w5.heap.size := (by have := HBw5.out.size; simpa using this); have zw6 : w5.heap.size ≤ w6.heap.size := (by have := HBw6.out.size; simpa using this); omega) _
                        (try simp only [Act.put, List.getElem_toArray, List.getElem_cons_zero, List.getElem_cons_succ, List.setIfInBounds_toArray, List.set_cons_zero, List.set_cons_succ])
                        refine wpAnyH_done (by kernel_rfl) ?_ _
                        have zw3 : W0.heap.size + 1 + 1 ≤ w3.heap.size := by have := HBw3.out.size; simpa using this
                        have zw4 : w3.heap.size ≤ w4.heap.size := by have := HBw4.out.size; simpa using this
                        have zw5 : w4.heap.size ≤ w5.heap.size := by have := HBw5.out.size; simpa using this
                        have zw6 : w5.heap.size ≤ w6.heap.size := by have := HBw6.out.size; simpa using this
                        have hz0 := HSZ.out
                        have hbel := bl_tr HB00.out (bl_tr (bl_tr (bl_tr (bl_tr (bl_al (bl_al (Below.drew (Below.refl _ _)) (.cells #[] 9)) (.cells #[.int .i64 0, .int .i64 0, .string { data := #[] }, .slice none 0 0, .slice none 0 0, .int .i64 0, .int .i64 0, .string { data := #[] }, .slice none 0 0, .slice none 0 0, .int .i64 0, .int .i64 0, .string { data := #[] }, .int .i64 0, .slice none 0 0, .slice none 0 0, .slice none 0 0, .slice none 0 0] 171)) HBw3.out) HBw4.out) HBw5.out) HBw6.out)
                        have hbox := (bl_tr (bl_tr (bl_tr (bl_tr (bl_al (bl_al (Below.drew (Below.refl _ _)) (.cells #[] 9)) (.cells #[.int .i64 0, .int .i64 0, .string { data := #[] }, .slice none 0 0, .slice none 0 0, .int .i64 0, .int .i64 0, .string { data := #[] }, .slice none 0 0, .slice none 0 0, .int .i64 0, .int .i64 0, .string { data := #[] }, .int .i64 0, .slice none 0 0, .slice none 0 0, .slice none 0 0, .slice none 0 0] 171)) HBw3.out) HBw4.out) HBw5.out) HBw6.out).block wo.heap.size (by omega)
                        have hg6 : wo.heap.size + 1 ≤ W0.heap.size + 1 := by omega
                        go_wp2_with fail
                        go_meet
                        case rel =>
                          exact ⟨W0.heap.size + 1, Av, cw, u0, u1, u2, u3, Aq, cq2, f0, f1, f2, f3, f4, f5, f6, f7, rfl, Lib.hid ⟨below_setRow hbel (by omega) _, (setRow_other _ _ _ _ (by omega)).trans (hbox.trans HK5.out), setRow_heap _ _ _ _ _ _ (bk_below (bk_below (bk_below (bk_below (bk_new (W0.drew.alloc (.cells #[] 9)) _ _ (W0.heap.size + 1) (by simp)) HBw3.out) HBw4.out) HBw5.out) HBw6.out), hg6, (strs_own HT3.out HNV.out (Y := fun g => wo.heap.size + 1 ≤ g ∧ g ≠ W0.heap.size + 1) (fun g hg cur hc => ⟨by omega, by rintro rfl; have hk : w3.heap[W0.heap.size + 1]? = some (.cells #[.int .i64 0, .int .i64 0, .string { data := #[] }, .slice none 0 0, .slice none 0 0, .int .i64 0, .int .i64 0, .string { data := #[] }, .slice none 0 0, .slice none 0 0, .int .i64 0, .int .i64 0, .string { data := #[] }, .int .i64 0, .slice none 0 0, .slice none 0 0, .slice none 0 0, .slice none 0 0] 171 (0, 0)) := bk_below (bk_new (W0.drew.alloc (.cells #[] 9)) _ _ (W0.heap.size + 1) (by simp)) HBw3.out; rw [hk] at hc; simp at hc⟩)).mono (memX_le_X fun g hg hx => ⟨hx, (setRow_other _ _ _ _ hx.2).trans ((bl_tr (bl_tr (bl_tr (Below.refl _ _) HBw4.out) HBw5.out) HBw6.out : Below w3.heap.size w3 _).block g hg)⟩), HTw4.out.mono (memX_le_X (fun g hg hx => ⟨⟨by (try simp at hx); omega, by (try simp at hx); omega⟩, (setRow_other _ _ _ _ (by (try simp at hx); omega)).trans ((bl_tr (bl_tr (Below.refl _ _) HBw5.out) HBw6.out : Below w4.heap.size w4 _).block g hg)⟩)), HTw5.out.mono' (memX_le_X (fun g hg hx => ⟨⟨by (try simp at hx); omega, by (try simp at hx); omega⟩, (setRow_other _ _ _ _ (by (try simp at hx); omega)).trans ((bl_tr (Below.refl _ _) HBw6.out : Below w5.heap.size w5 _).block g hg)⟩)), HTw6.out.mono (memX_le_X (fun g hg hx => ⟨⟨by (try simp at hx); omega, by (try simp at hx); omega⟩, (setRow_other _ _ _ _ (by (try simp at hx); omega)).trans ((Below.refl _ _ : Below w6.heap.size w6 _).block g hg)⟩)), own_ok HTw4.out.ok (pts_ok HTw5.out) HTw6.out.ok⟩⟩
          · (try simp only [List.getElem_toArray, List.getElem_cons_zero, List.getElem_cons_succ, List.setIfInBounds_toArray, List.set_cons_zero, List.set_cons_succ])
            try go_simp
            refine hK.out _ _ ?_ (fun hHeld => ?_)
            · exact (bl_al (Below.drew (Below.refl _ _)) (.cells #[.int .i64 0, .int .i64 0, .string { data := #[] }, .slice none 0 0, .slice none 0 0, .int .i64 0, .int .i64 0, .string { data := #[] }, .slice none 0 0, .slice none 0 0, .int .i64 0, .int .i64 0, .string { data := #[] }, .int .i64 0, .slice none 0 0, .slice none 0 0, .slice none 0 0, .slice none 0 0] 171)).mono (Nat.le_refl _)
            (try simp only [Act.put, List.getElem_toArray, List.getElem_cons_zero, List.getElem_cons_succ, List.setIfInBounds_toArray, List.set_cons_zero, List.set_cons_succ])
            refine wpAnyH_ready (rs := [6]) (by kernel_rfl) (by simp) ?_
            refine AllReadyH.cons rfl (fun K hK => ?_) AllReadyH.nil
            · (try simp only [List.getElem_toArray, List.getElem_cons_zero, List.getElem_cons_succ, List.setIfInBounds_toArray, List.set_cons_zero, List.set_cons_succ])
              try go_simp
              refine hK.out _ _ ?_ (fun hHeld => ?_)
              · exact (bl_al (bl_al (Below.drew (Below.refl _ _)) (.cells #[.int .i64 0, .int .i64 0, .string { data := #[] }, .slice none 0 0, .slice none 0 0, .int .i64 0, .int .i64 0, .string { data := #[] }, .slice none 0 0, .slice none 0 0, .int .i64 0, .int .i64 0, .string { data := #[] }, .int .i64 0, .slice none 0 0, .slice none 0 0, .slice none 0 0, .slice none 0 0] 171)) (.cells #[] 9)).mono (Nat.le_refl _)
              (try simp only [Act.put, List.getElem_toArray, List.getElem_cons_zero, List.getElem_cons_succ, List.setIfInBounds_toArray, List.set_cons_zero, List.set_cons_succ])
              refine wpAnyH_ready (rs := [9]) (by kernel_rfl) (by simp) ?_
              refine AllReadyH.cons rfl (fun K hK => ?_) AllReadyH.nil
              · skip
                refine step_append_copy rfl (.tmp 24) (.tmp 26) 158 rfl W0.heap.size 9 gs (.string { data := #[] }) 1 16 Try.underlying158 hgs hgs0 hgss hgsb rfl (by decide) ⟨W0.heap.size + 1, rfl, bk_new (W0.drew.alloc (.cells #[.int .i64 0, .int .i64 0, .string { data := #[] }, .slice none 0 0, .slice none 0 0, .int .i64 0, .int .i64 0, .string { data := #[] }, .slice none 0 0, .slice none 0 0, .int .i64 0, .int .i64 0, .string { data := #[] }, .int .i64 0, .slice none 0 0, .slice none 0 0, .slice none 0 0, .slice none 0 0] 171)) _ _ (W0.heap.size + 1) (by simp), by omega⟩ A3 nv cv (vars.map Value.string) rfl (by simp; exact HNV.out.symm) (strs_news HVA.out HNV.out (bl_tr HB00.out (bl_al (bl_al (Below.drew (Below.refl _ _)) (.cells #[.int .i64 0, .int .i64 0, .string { data := #[] }, .slice none 0 0, .slice none 0 0, .int .i64 0, .int .i64 0, .string { data := #[] }, .slice none 0 0, .slice none 0 0, .int .i64 0, .int .i64 0, .string { data := #[] }, .int .i64 0, .slice none 0 0, .slice none 0 0, .slice none 0 0, .slice none 0 0] 171)) (.cells #[] 9)))) (by simp [Value.oneCell']) (by unfold maxLen; omega) (by omega) ((bl_al (bl_al (Below.drew (Below.refl _ _)) (.cells #[.int .i64 0, .int .i64 0, .string { data := #[] }, .slice none 0 0, .slice none 0 0, .int .i64 0, .int .i64 0, .string { data := #[] }, .slice none 0 0, .slice none 0 0, .int .i64 0, .int .i64 0, .string { data := #[] }, .int .i64 0, .slice none 0 0, .slice none 0 0, .slice none 0 0, .slice none 0 0] 171)) (.cells #[] 9)).size) ?_
                intro Av cw w3 hown3 hbb
                have HT3 := Lib.hid hown3; have HBw3 : Hid (Below ((W0.drew.alloc (.cells #[.int .i64 0, .int .i64 0, .string { data := #[] }, .slice none 0 0, .slice none 0 0, .int .i64 0, .int .i64 0, .string { data := #[] }, .slice none 0 0, .slice none 0 0, .int .i64 0, .int .i64 0, .string { data := #[] }, .int .i64 0, .slice none 0 0, .slice none 0 0, .slice none 0 0, .slice none 0 0] 171)).alloc (.cells #[] 9)).heap.size ((W0.drew.alloc (.cells #[.int .i64 0, .int .i64 0, .string { data := #[] }, .slice none 0 0, .slice none 0 0, .int .i64 0, .int .i64 0, .string { data := #[] }, .slice none 0 0, .slice none 0 0, .int .i64 0, .int .i64 0, .string { data := #[] }, .int .i64 0, .slice none 0 0, .slice none 0 0, .slice none 0 0, .slice none 0 0] 171)).alloc (.cells #[] 9)) w3) := Lib.hid hbb
                clear hown3 hbb
                refine hK.out _ _ ?_ (fun hHeld => ?_)
                · exact (bl_tr (bl_al (bl_al (Below.drew (Below.refl _ _)) (.cells #[.int .i64 0, .int .i64 0, .string { data := #[] }, .slice none 0 0, .slice none 0 0, .int .i64 0, .int .i64 0, .string { data := #[] }, .slice none 0 0, .slice none 0 0, .int .i64 0, .int .i64 0, .string { data := #[] }, .int .i64 0, .slice none 0 0, .slice none 0 0, .slice none 0 0, .slice none 0 0] 171)) (.cells #[] 9)) HBw3.out).mono (Nat.le_refl _)
                (try simp only [Act.put, List.getElem_toArray, List.getElem_cons_zero, List.getElem_cons_succ, List.setIfInBounds_toArray, List.set_cons_zero, List.set_cons_succ])
                refine wpAnyH_ready (rs := [12]) (by kernel_rfl) (by simp) ?_
                refine AllReadyH.cons rfl (fun K hK => ?_) AllReadyH.nil
                · (try simp only [List.getElem_toArray, List.getElem_cons_zero, List.getElem_cons_succ, List.setIfInBounds_toArray, List.set_cons_zero, List.set_cons_succ])
                  try go_simp
                  refine (K3.out _ (bl_tr HB00.out (bl_tr (bl_al (bl_al (Below.drew (Below.refl _ _)) (.cells #[.int .i64 0, .int .i64 0, .string { data := #[] }, .slice none 0 0, .slice none 0 0, .int .i64 0, .int .i64 0, .string { data := #[] }, .slice none 0 0, .slice none 0 0, .int .i64 0, .int .i64 0, .string { data := #[] }, .int .i64 0, .slice none 0 0, .slice none 0 0, .slice none 0 0, .slice none 0 0] 171)) (.cells #[] 9)) HBw3.out))).mono ?_
                  rintro e w4 ⟨cq, rfl, hb2, hT⟩
                  obtain ⟨u0, u1, u2, u3, rfl⟩ := hT.sh
                  have HTw4 : Hid (TyC (memX w4 (w3.heap.size ≤ ·)) ty [.int .i64 u0, .int .i64 u1, .string u2, u3]) := Lib.hid hT
                  have HBw4 : Hid (Below w3.heap.size w3 w4) := Lib.hid hb2
                  clear hb2 hT
                  try go_simp
                  refine hK.out _ _ ?_ (fun hHeld => ?_)
                  · exact (bl_tr (bl_tr (bl_al (bl_al (Below.drew (Below.refl _ _)) (.cells #[.int .i64 0, .int .i64 0, .string { data := #[] }, .slice none 0 0, .slice none 0 0, .int .i64 0, .int .i64 0, .string { data := #[] }, .slice none 0 0, .slice none 0 0, .int .i64 0, .int .i64 0, .string { data := #[] }, .int .i64 0, .slice none 0 0, .slice none 0 0, .slice none 0 0, .slice none 0 0] 171)) (.cells #[] 9)) HBw3.out) HBw4.out).mono (Nat.le_refl _)
                  (try simp only [Act.put, List.getElem_toArray, List.getElem_cons_zero, List.getElem_cons_succ, List.setIfInBounds_toArray, List.set_cons_zero, List.set_cons_succ])
                  refine wpAnyH_ready (rs := [15]) (by kernel_rfl) (by simp) ?_
                  refine AllReadyH.cons rfl (fun K hK => ?_) AllReadyH.nil
                  · (try simp only [List.getElem_toArray, List.getElem_cons_zero, List.getElem_cons_succ, List.setIfInBounds_toArray, List.set_cons_zero, List.set_cons_succ])
                    try go_simp
                    refine (K4.out _ (bl_tr HB00.out (bl_tr (bl_tr (bl_al (bl_al (Below.drew (Below.refl _ _)) (.cells #[.int .i64 0, .int .i64 0, .string { data := #[] }, .slice none 0 0, .slice none 0 0, .int .i64 0, .int .i64 0, .string { data := #[] }, .slice none 0 0, .slice none 0 0, .int .i64 0, .int .i64 0, .string { data := #[] }, .int .i64 0, .slice none 0 0, .slice none 0 0, .slice none 0 0, .slice none 0 0] 171)) (.cells #[] 9)) HBw3.out) HBw4.out))).mono ?_
                    rintro e w5 ⟨cq, rfl, hb2, hT⟩
                    obtain ⟨Aq, cq2, Cq, rfl, hcp, hAp, hCp⟩ := hT; have hT : PtsV (memX w5 (_ ≤ ·)) pats (.slice Aq pats.length cq2) := ⟨Aq, cq2, Cq, rfl, hcp, hAp, hCp⟩; clear hcp hAp hCp
                    have HTw5 : Hid (PtsV (memX w5 (w4.heap.size ≤ ·)) pats (.slice Aq pats.length cq2)) := Lib.hid hT
                    have HBw5 : Hid (Below w4.heap.size w4 w5) := Lib.hid hb2
                    clear hb2 hT
                    try go_simp
                    refine hK.out _ _ ?_ (fun hHeld => ?_)
                    · exact (bl_tr (bl_tr (bl_tr (bl_al (bl_al (Below.drew (Below.refl _ _)) (.cells #[.int .i64 0, .int .i64 0, .string { data := #[] }, .slice none 0 0, .slice none 0 0, .int .i64 0, .int .i64 0, .string { data := #[] }, .slice none 0 0, .slice none 0 0, .int .i64 0, .int .i64 0, .string { data := #[] }, .int .i64 0, .slice none 0 0, .slice none 0 0, .slice none 0 0, .slice none 0 0] 171)) (.cells #[] 9)) HBw3.out) HBw4.out) HBw5.out).mono (Nat.le_refl _)
                    (try simp only [Act.put, List.getElem_toArray, List.getElem_cons_zero, List.getElem_cons_succ, List.setIfInBounds_toArray, List.set_cons_zero, List.set_cons_succ])
                    refine wpAnyH_ready (rs := [18]) (by kernel_rfl) (by simp) ?_
                    refine AllReadyH.cons rfl (fun K hK => ?_) AllReadyH.nil
                    · (try simp only [List.getElem_toArray, List.getElem_cons_zero, List.getElem_cons_succ, List.setIfInBounds_toArray, List.set_cons_zero, List.set_cons_succ])
                      try go_simp
                      refine (K5.out _ (bl_tr HB00.out (bl_tr (bl_tr (bl_tr (bl_al (bl_al (Below.drew (Below.refl _ _)) (.cells #[.int .i64 0, .int .i64 0, .string { data := #[] }, .slice none 0 0, .slice none 0 0, .int .i64 0, .int .i64 0, .string { data := #[] }, .slice none 0 0, .slice none 0 0, .int .i64 0, .int .i64 0, .string { data := #[] }, .int .i64 0, .slice none 0 0, .slice none 0 0, .slice none 0 0, .slice none 0 0] 171)) (.cells #[] 9)) HBw3.out) HBw4.out) HBw5.out))).mono ?_
                      rintro e w6 ⟨cq, rfl, hb2, hT⟩
                      obtain ⟨f0, f1, f2, f3, f4, f5, f6, f7, rfl⟩ := hT.sh
                      have HTw6 : Hid (ExC (memX w6 (w5.heap.size ≤ ·)) body [.int .i64 f0, .int .i64 f1, .string f2, .int .i64 f3, f4, f5, f6, f7]) := Lib.hid hT
                      have HBw6 : Hid (Below w5.heap.size w5 w6) := Lib.hid hb2
                      clear hb2 hT
                      try go_simp
                      refine hK.out _ _ ?_ (fun hHeld => ?_)
                      · exact (bl_tr (bl_tr (bl_tr (bl_tr (bl_al (bl_al (Below.drew (Below.refl _ _)) (.cells #[.int .i64 0, .int .i64 0, .string { data := #[] }, .slice none 0 0, .slice none 0 0, .int .i64 0, .int .i64 0, .string { data := #[] }, .slice none 0 0, .slice none 0 0, .int .i64 0, .int .i64 0, .string { data := #[] }, .int .i64 0, .slice none 0 0, .slice none 0 0, .slice none 0 0, .slice none 0 0] 171)) (.cells #[] 9)) HBw3.out) HBw4.out) HBw5.out) HBw6.out).mono (Nat.le_refl _)
                      (try simp only [Act.put, List.getElem_toArray, List.getElem_cons_zero, List.getElem_cons_succ, List.setIfInBounds_toArray, List.set_cons_zero, List.set_cons_succ])
                      refine wpAnyH_take (i := 19) (v := ?_) rfl (by kernel_rfl) (by kernel_rfl) (by kernel_rfl) (fun _ _ _ h => h) (Or.inl ⟨by rfl, ?_⟩) hHeld ?_
                      rotate_left
                      · (intro wS hSw; (try dsimp only at hSw); go_simp; try with_reducible rfl)
                      (try simp only [Act.put, List.getElem_toArray, List.getElem_cons_zero, List.getElem_cons_succ, List.setIfInBounds_toArray, List.set_cons_zero, List.set_cons_succ])
                      refine wpAnyH_ready (rs := [21]) (by kernel_rfl) (by simp) ?_
                      refine AllReadyH.cons rfl (fun K hK => ?_) AllReadyH.nil
                      · skip
                        refine step_store_row rfl 171 (.tmp 6) (.tmp 37) rfl (W0.heap.size) rfl #[.int .i64 kk, .int .i64 aa, .string ss, .slice Av nv cw, .slice none 0 0, .int .i64 u0, .int .i64 u1, .string u2, u3, .slice Aq pats.length cq2, .int .i64 f0, .int .i64 f1, .string f2, .int .i64 f3, f4, f5, f6, f7] rfl _ (bk_below (bk_below (bk_below (bk_below (bk_alloc (bk_new W0.drew _ _ (W0.heap.size) (by simp)) _) HBw3.out) HBw4.out) HBw5.out) HBw6.out) Try.riDecl rfl (own_ok HTw4.out.ok (pts_ok HTw5.out) HTw6.out.ok) ?_
                        refine hK.out _ _ ?_ (fun hHeld => ?_)
                        · exact below_setRow (bl_tr (bl_tr (bl_tr (bl_tr (bl_al (bl_al (Below.drew (Below.refl _ _)) (.cells #[.int .i64 0, .int .i64 0, .string { data := #[] }, .slice none 0 0, .slice none 0 0, .int .i64 0, .int .i64 0, .string { data := #[] }, .slice none 0 0, .slice none 0 0, .int .i64 0, .int .i64 0, .string { data := #[] }, .int .i64 0, .slice none 0 0, .slice none 0 0, .slice none 0 0, .slice none 0 0] 171)) (.cells #[] 9)) HBw3.out) HBw4.out) HBw5.out) HBw6.out) (by have zw3 : W0.heap.size + 1 + 1 ≤ w3.heap.size := (by have := HBw3.out.size; simpa using this); have zw4 : w3.heap.size ≤ w4.heap.size := (by have := HBw4.out.size; simpa using this); have zw5 : w4.heap.size ≤ w5.heap.size := (by have := HBw5.out.size; simpa using this); have zw6 : w5.heap.size ≤ w6.heap.size := (by have := HBw6.out.size; simpa using this); omega) _
                        (try simp only [Act.put, List.getElem_toArray, List.getElem_cons_zero, List.getElem_cons_succ, List.setIfInBounds_toArray, List.set_cons_zero, List.set_cons_succ])
                        refine wpAnyH_done (by kernel_rfl) ?_ _
                        have zw3 : W0.heap.size + 1 + 1 ≤ w3.heap.size := by have := HBw3.out.size; simpa using this
                        have zw4 : w3.heap.size ≤ w4.heap.size := by have := HBw4.out.size; simpa using this
                        have zw5 : w4.heap.size ≤ w5.heap.size := by have := HBw5.out.size; simpa using this
                        have zw6 : w5.heap.size ≤ w6.heap.size := by have := HBw6.out.size; simpa using this
                        have hz0 := HSZ.out
                        have hbel := bl_tr HB00.out (bl_tr (bl_tr (bl_tr (bl_tr (bl_al (bl_al (Below.drew (Below.refl _ _)) (.cells #[.int .i64 0, .int .i64 0, .string { data := #[] }, .slice none 0 0, .slice none 0 0, .int .i64 0, .int .i64 0, .string { data := #[] }, .slice none 0 0, .slice none 0 0, .int .i64 0, .int .i64 0, .string { data := #[] }, .int .i64 0, .slice none 0 0, .slice none 0 0, .slice none 0 0, .slice none 0 0] 171)) (.cells #[] 9)) HBw3.out) HBw4.out) HBw5.out) HBw6.out)
                        have hbox := (bl_tr (bl_tr (bl_tr (bl_tr (bl_al (bl_al (Below.drew (Below.refl _ _)) (.cells #[.int .i64 0, .int .i64 0, .string { data := #[] }, .slice none 0 0, .slice none 0 0, .int .i64 0, .int .i64 0, .string { data := #[] }, .slice none 0 0, .slice none 0 0, .int .i64 0, .int .i64 0, .string { data := #[] }, .int .i64 0, .slice none 0 0, .slice none 0 0, .slice none 0 0, .slice none 0 0] 171)) (.cells #[] 9)) HBw3.out) HBw4.out) HBw5.out) HBw6.out).block wo.heap.size (by omega)
                        have hg6 : wo.heap.size + 1 ≤ W0.heap.size := by omega
                        go_wp2_with fail
                        go_meet
                        case rel =>
                          exact ⟨W0.heap.size, Av, cw, u0, u1, u2, u3, Aq, cq2, f0, f1, f2, f3, f4, f5, f6, f7, rfl, Lib.hid ⟨below_setRow hbel (by omega) _, (setRow_other _ _ _ _ (by omega)).trans (hbox.trans HK5.out), setRow_heap _ _ _ _ _ _ (bk_below (bk_below (bk_below (bk_below (bk_alloc (bk_new W0.drew _ _ (W0.heap.size) (by simp)) _) HBw3.out) HBw4.out) HBw5.out) HBw6.out), hg6, (strs_own HT3.out HNV.out (Y := fun g => wo.heap.size + 1 ≤ g ∧ g ≠ W0.heap.size) (fun g hg cur hc => ⟨by omega, by rintro rfl; have hk : w3.heap[W0.heap.size]? = some (.cells #[.int .i64 0, .int .i64 0, .string { data := #[] }, .slice none 0 0, .slice none 0 0, .int .i64 0, .int .i64 0, .string { data := #[] }, .slice none 0 0, .slice none 0 0, .int .i64 0, .int .i64 0, .string { data := #[] }, .int .i64 0, .slice none 0 0, .slice none 0 0, .slice none 0 0, .slice none 0 0] 171 (0, 0)) := bk_below (bk_alloc (bk_new W0.drew _ _ (W0.heap.size) (by simp)) _) HBw3.out; rw [hk] at hc; simp at hc⟩)).mono (memX_le_X fun g hg hx => ⟨hx, (setRow_other _ _ _ _ hx.2).trans ((bl_tr (bl_tr (bl_tr (Below.refl _ _) HBw4.out) HBw5.out) HBw6.out : Below w3.heap.size w3 _).block g hg)⟩), HTw4.out.mono (memX_le_X (fun g hg hx => ⟨⟨by (try simp at hx); omega, by (try simp at hx); omega⟩, (setRow_other _ _ _ _ (by (try simp at hx); omega)).trans ((bl_tr (bl_tr (Below.refl _ _) HBw5.out) HBw6.out : Below w4.heap.size w4 _).block g hg)⟩)), HTw5.out.mono' (memX_le_X (fun g hg hx => ⟨⟨by (try simp at hx); omega, by (try simp at hx); omega⟩, (setRow_other _ _ _ _ (by (try simp at hx); omega)).trans ((bl_tr (Below.refl _ _) HBw6.out : Below w5.heap.size w5 _).block g hg)⟩)), HTw6.out.mono (memX_le_X (fun g hg hx => ⟨⟨by (try simp at hx); omega, by (try simp at hx); omega⟩, (setRow_other _ _ _ _ (by (try simp at hx); omega)).trans ((Below.refl _ _ : Below w6.heap.size w6 _).block g hg)⟩)), own_ok HTw4.out.ok (pts_ok HTw5.out) HTw6.out.ok⟩⟩
      case rest =>
        obtain ⟨g6, Av, cw, u0, u1, u2, u3, Aq, cq2, f0, f1, f2, f3, f4, f5, f6, f7, rfl, HXD⟩ := hcut
        clear B0 B1 B2 B3 B9 R5 R10 IT IE K3 K4 K5 hgs hgs0 hgss hgsb
        have HFAR : Hid (wo.heap.size + 1 ≤ g6) := Lib.hid HXD.out.far
        have HG3 : Hid (g6 < wc.heap.size) := Lib.hid (Array.getElem?_eq_some_iff.1 HXD.out.loc).1
        have HBW0 : Hid (Below wo.heap.size wo wc) := Lib.hid HXD.out.below
        go_wp2_with fail
        go_loopg [7] nc (fun gk i wr => ∃ q2 : Nat, q2 ≤ nc ∧ gk = nc - q2 ∧ i = .int .i64 q2 ∧ Hid (But wc.heap.size g6 wc wr ∧ ∃ A2 c2 C3, Blk wr g6 171 #[.int .i64 kk, .int .i64 aa, .string ss, .slice Av nv cw, .slice A2 q2 c2, .int .i64 u0, .int .i64 u1, .string u2, u3, .slice Aq pats.length cq2, .int .i64 f0, .int .i64 f1, .string f2, .int .i64 f3, f4, f5, f6, f7] ∧ RowX wr (wc.heap.size ≤ ·) wc.heap.size 176 3 (.slice A2 q2 c2) q2 C3 (GCo cons)))
        case atStart => exact ⟨0, Nat.zero_le _, rfl, rfl, Lib.hid ⟨But.refl _ _ _, none, 0, fun _ => [], HXD.out.loc, RowX.nil _ _ _ _ _ _ _⟩⟩
        case round =>
          obtain ⟨q2, hq2, rfl, rfl, HL⟩ := hrel
          obtain ⟨hbut, AX, cX, CX, hkb, hrw⟩ := HL.out
          clear HL
          have hbC : Below (wo.heap.size + 1) wc wr := hbut.below HFAR.out (by have := HFAR.out; have := HG3.out; omega)
          have HBR2 : Hid (Below wo.heap.size wo wr) := Lib.hid (HBW0.out.trans (hbC.mono (by omega)))
          have HBX : Hid (Blk wr wo.heap.size 164 #[.int .i64 kk, .int .i64 aa, .string ss, .slice A3 nv cv, .slice A4 nc cc, t0, t1, t2, t3, vp, b0, b1, b2, b3, b4, b5, b6, b7]) := Lib.hid ((hbC.block _ (by omega)).trans HXD.out.box)
          have hce : wr.cell? ⟨wo.heap.size, 4, none⟩ = some (.slice A4 nc cc) := (cell_of_row _ _ 4 _ _ _ HBX.out).trans rfl
          have HBU := Lib.hid hbut; have HKB := Lib.hid hkb; have HRW := Lib.hid hrw
          clear hbut hkb hrw hbC
          by_cases hlt2 : q2 < nc
          · obtain ⟨gi0, hgi, hgz0, hgzs, hgzb⟩ := info_parts Try.infoC
            obtain ⟨g4', o4, rfl, hcc4⟩ := HCA.out (by omega)
            have hpl : q2 < cons.length := by rw [← HNC.out]; exact hlt2
            obtain ⟨va, eC, hcall⟩ := HCT.out q2 hpl
            obtain ⟨xq, hxq⟩ : ∃ x, x = cons[q2] := ⟨_, rfl⟩
            rw [← hxq] at eC hcall
            obtain ⟨ca, cn, cargs⟩ := xq
            have h0 := hcc4 q2 hlt2 0 (by decide); have h1 := hcc4 q2 hlt2 1 (by decide); have h2 := hcc4 q2 hlt2 2 (by decide)
            rw [eC] at h0 h1 h2
            simp only [mem, List.getElem?_cons_zero, List.getElem?_cons_succ, Nat.add_zero] at h0 h1 h2
            have B0 : ∀ w', Below (wo.heap.size + 1) wr w' → w'.cell? ⟨g4', o4 + q2 * 3, none⟩ = some (.int .i64 ca) := fun w' hw' => ((HBR2.out.trans (hw'.mono (by omega))).cell (p := ⟨g4', o4 + q2 * 3, none⟩) (cell_lt h0)).trans h0
            have B1 : ∀ w', Below (wo.heap.size + 1) wr w' → w'.cell? ⟨g4', o4 + q2 * 3 + 1, none⟩ = some (.string cn) := fun w' hw' => ((HBR2.out.trans (hw'.mono (by omega))).cell (p := ⟨g4', o4 + q2 * 3 + 1, none⟩) (cell_lt h1)).trans h1
            have B2 : ∀ w', Below (wo.heap.size + 1) wr w' → w'.cell? ⟨g4', o4 + q2 * 3 + 2, none⟩ = some va := fun w' hw' => ((HBR2.out.trans (hw'.mono (by omega))).cell (p := ⟨g4', o4 + q2 * 3 + 2, none⟩) (cell_lt h2)).trans h2
            have BB : ∀ w', Below (wo.heap.size + 1) wr w' → w'.cell? ⟨wo.heap.size, 4, none⟩ = some (.slice (some ⟨g4', o4, none⟩) nc cc) := fun w' hw' => (cell_of_row _ _ 4 _ _ _ ((hw'.block _ (Nat.lt_succ_self _)).trans HBX.out)).trans rfl
            have HEC : Hid (∀ W, Below wr.heap.size wr W → Calls Try.prog 91 #[va] W (OwnTysV W cargs)) := Lib.hid (fun W hW => hcall W (bl_tr HBR2.out hW))
            have HXQ := Lib.hid hxq
            have HGL : Hid (g6 < wr.heap.size) := Lib.hid (Nat.lt_of_lt_of_le HG3.out HBU.out.size)
            have HSM : Hid (wo.heap.size + 1 ≤ wr.heap.size) := Lib.hid (by have := HFAR.out; have := HGL.out; omega)
            have HSG : Hid (wo.heap.size + 1 ≤ g6) := HFAR
            have HGB : Hid (g6 < wc.heap.size) := HG3
            have HSB : Hid (wc.heap.size ≤ wr.heap.size) := Lib.hid HBU.out.size
            have hF0 : wr.cell? ⟨g6, 4, none⟩ = some (.slice AX q2 cX) := (cell_of_row _ _ 4 _ _ _ HKB.out).trans rfl
            have hk2 : (q2 : Int) < (nc : Int) := by omega
            have hk0 : (0 : Int) ≤ (q2 : Int) := by omega
            clear h0 h1 h2 hcc4 eC hcall hxq
            go_wp2_with fail
            refine wp_region_held_drew (S := fun w' => Below (wo.heap.size + 1) wr w') (by kernel_rfl) (Below.drew (Below.refl _ _)) (fun hHeld => ?_)
            refine wpAnyH_take (i := 0) (v := ?_) rfl (by kernel_rfl) (by kernel_rfl) (by kernel_rfl) (fun _ _ _ h => h) (Or.inl ⟨by rfl, ?_⟩) hHeld ?_
            rotate_left
            · (intro wS hSw; (try dsimp only at hSw); go_simp; try with_reducible rfl)
            (try simp only [Act.put, List.getElem_toArray, List.getElem_cons_zero, List.getElem_cons_succ, List.setIfInBounds_toArray, List.set_cons_zero, List.set_cons_succ])
            refine wpAnyH_take (i := 2) (v := ?_) rfl (by kernel_rfl) (by kernel_rfl) (by kernel_rfl) (fun _ _ _ h => h) (Or.inl ⟨by rfl, ?_⟩) hHeld ?_
            rotate_left
            · (intro wS hSw; (try dsimp only at hSw); go_simp; try with_reducible rfl)
            (try simp only [Act.put, List.getElem_toArray, List.getElem_cons_zero, List.getElem_cons_succ, List.setIfInBounds_toArray, List.set_cons_zero, List.set_cons_succ])
            refine wpAnyH_take (i := 3) (v := ?_) rfl (by kernel_rfl) (by kernel_rfl) (by kernel_rfl) (fun _ _ _ h => h) (Or.inl ⟨by rfl, ?_⟩) hHeld ?_
            rotate_left
            · (intro wS hSw; (try dsimp only at hSw); go_simp; try with_reducible rfl)
            (try simp only [Act.put, List.getElem_toArray, List.getElem_cons_zero, List.getElem_cons_succ, List.setIfInBounds_toArray, List.set_cons_zero, List.set_cons_succ])
            refine wpAnyH_take (i := 4) (v := ?_) rfl (by kernel_rfl) (by kernel_rfl) (by kernel_rfl) (fun _ _ _ h => h) (Or.inl ⟨by rfl, ?_⟩) hHeld ?_
            rotate_left
            · (intro wS hSw; (try dsimp only at hSw); go_simp; try with_reducible rfl)
            (try simp only [Act.put, List.getElem_toArray, List.getElem_cons_zero, List.getElem_cons_succ, List.setIfInBounds_toArray, List.set_cons_zero, List.set_cons_succ])
            refine wpAnyH_take (i := 5) (v := ?_) rfl (by kernel_rfl) (by kernel_rfl) (by kernel_rfl) (fun _ _ _ h => h) (Or.inl ⟨by rfl, ?_⟩) hHeld ?_
            rotate_left
            · (intro wS hSw; (try dsimp only at hSw); go_simp; try with_reducible rfl)
            (try simp only [Act.put, List.getElem_toArray, List.getElem_cons_zero, List.getElem_cons_succ, List.setIfInBounds_toArray, List.set_cons_zero, List.set_cons_succ])
            refine wpAnyH_take (i := 6) (v := ?_) rfl (by kernel_rfl) (by kernel_rfl) (by kernel_rfl) (fun _ _ _ h => h) (Or.inl ⟨by rfl, ?_⟩) hHeld ?_
            rotate_left
            · (intro wS hSw; (try dsimp only at hSw); go_simp; try with_reducible rfl)
            (try simp only [Act.put, List.getElem_toArray, List.getElem_cons_zero, List.getElem_cons_succ, List.setIfInBounds_toArray, List.set_cons_zero, List.set_cons_succ])
            refine wpAnyH_take (i := 7) (v := ?_) rfl (by kernel_rfl) (by kernel_rfl) (by kernel_rfl) (fun _ _ _ h => h) (Or.inl ⟨by rfl, ?_⟩) hHeld ?_
            rotate_left
            · (intro wS hSw; (try dsimp only at hSw); go_simp; try with_reducible rfl)
            (try simp only [Act.put, List.getElem_toArray, List.getElem_cons_zero, List.getElem_cons_succ, List.setIfInBounds_toArray, List.set_cons_zero, List.set_cons_succ])
            refine wpAnyH_take (i := 8) (v := ?_) rfl (by kernel_rfl) (by kernel_rfl) (by kernel_rfl) (fun _ _ _ h => h) (Or.inl ⟨by rfl, ?_⟩) hHeld ?_
            rotate_left
            · (intro wS hSw; (try dsimp only at hSw); go_simp; try with_reducible rfl)
            (try simp only [Act.put, List.getElem_toArray, List.getElem_cons_zero, List.getElem_cons_succ, List.setIfInBounds_toArray, List.set_cons_zero, List.set_cons_succ])
            refine wpAnyH_take (i := 9) (v := ?_) rfl (by kernel_rfl) (by kernel_rfl) (by kernel_rfl) (fun _ _ _ h => h) (Or.inl ⟨by rfl, ?_⟩) hHeld ?_
            rotate_left
            · (intro wS hSw; (try dsimp only at hSw); go_simp; try with_reducible rfl)
            (try simp only [Act.put, List.getElem_toArray, List.getElem_cons_zero, List.getElem_cons_succ, List.setIfInBounds_toArray, List.set_cons_zero, List.set_cons_succ])
            refine wpAnyH_take (i := 10) (v := ?_) rfl (by kernel_rfl) (by kernel_rfl) (by kernel_rfl) (fun _ _ _ h => h) (Or.inl ⟨by rfl, ?_⟩) hHeld ?_
            rotate_left
            · (intro wS hSw; (try dsimp only at hSw); go_simp; try with_reducible rfl)
            (try simp only [Act.put, List.getElem_toArray, List.getElem_cons_zero, List.getElem_cons_succ, List.setIfInBounds_toArray, List.set_cons_zero, List.set_cons_succ])
            refine wpAnyH_take (i := 11) (v := ?_) rfl (by kernel_rfl) (by kernel_rfl) (by kernel_rfl) (fun _ _ _ h => h) (Or.inl ⟨by rfl, ?_⟩) hHeld ?_
            rotate_left
            · (intro wS hSw; (try dsimp only at hSw); go_simp; try with_reducible rfl)
            (try simp only [Act.put, List.getElem_toArray, List.getElem_cons_zero, List.getElem_cons_succ, List.setIfInBounds_toArray, List.set_cons_zero, List.set_cons_succ])
            refine wpAnyH_take (i := 12) (v := ?_) rfl (by kernel_rfl) (by kernel_rfl) (by kernel_rfl) (fun _ _ _ h => h) (Or.inl ⟨by rfl, ?_⟩) hHeld ?_
            rotate_left
            · (intro wS hSw; (try dsimp only at hSw); go_simp; try with_reducible rfl)
            (try simp only [Act.put, List.getElem_toArray, List.getElem_cons_zero, List.getElem_cons_succ, List.setIfInBounds_toArray, List.set_cons_zero, List.set_cons_succ])
            refine wpAnyH_take (i := 13) (v := ?_) rfl (by kernel_rfl) (by kernel_rfl) (by kernel_rfl) (fun _ _ _ h => h) (Or.inl ⟨by rfl, ?_⟩) hHeld ?_
            rotate_left
            · (intro wS hSw; (try dsimp only at hSw); go_simp; try with_reducible rfl)
            (try simp only [Act.put, List.getElem_toArray, List.getElem_cons_zero, List.getElem_cons_succ, List.setIfInBounds_toArray, List.set_cons_zero, List.set_cons_succ])
            refine wpAnyH_take (i := 14) (v := ?_) rfl (by kernel_rfl) (by kernel_rfl) (by kernel_rfl) (fun _ _ _ h => h) (Or.inl ⟨by rfl, ?_⟩) hHeld ?_
            rotate_left
            · (intro wS hSw; (try dsimp only at hSw); go_simp; try with_reducible rfl)
            (try simp only [Act.put, List.getElem_toArray, List.getElem_cons_zero, List.getElem_cons_succ, List.setIfInBounds_toArray, List.set_cons_zero, List.set_cons_succ])
            refine wpAnyH_take (i := 15) (v := ?_) rfl (by kernel_rfl) (by kernel_rfl) (by kernel_rfl) (fun _ _ _ h => h) (Or.inl ⟨by rfl, ?_⟩) hHeld ?_
            rotate_left
            · (intro wS hSw; (try dsimp only at hSw); go_simp; try with_reducible rfl)
            (try simp only [Act.put, List.getElem_toArray, List.getElem_cons_zero, List.getElem_cons_succ, List.setIfInBounds_toArray, List.set_cons_zero, List.set_cons_succ])
            refine wpAnyH_take (i := 16) (v := ?_) rfl (by kernel_rfl) (by kernel_rfl) (by kernel_rfl) (fun _ _ _ h => h) (Or.inl ⟨by rfl, ?_⟩) hHeld ?_
            rotate_left
            · (intro wS hSw; (try dsimp only at hSw); go_simp; try with_reducible rfl)
            (try simp only [Act.put, List.getElem_toArray, List.getElem_cons_zero, List.getElem_cons_succ, List.setIfInBounds_toArray, List.set_cons_zero, List.set_cons_succ])
            refine wpAnyH_take (i := 17) (v := ?_) rfl (by kernel_rfl) (by kernel_rfl) (by kernel_rfl) (fun _ _ _ h => h) (Or.inl ⟨by rfl, ?_⟩) hHeld ?_
            rotate_left
            · (intro wS hSw; (try dsimp only at hSw); go_simp; try with_reducible rfl)
            (try simp only [Act.put, List.getElem_toArray, List.getElem_cons_zero, List.getElem_cons_succ, List.setIfInBounds_toArray, List.set_cons_zero, List.set_cons_succ])
            refine wpAnyH_take (i := 18) (v := ?_) rfl (by kernel_rfl) (by kernel_rfl) (by kernel_rfl) (fun _ _ _ h => h) (Or.inl ⟨by rfl, ?_⟩) hHeld ?_
            rotate_left
            · (intro wS hSw; (try dsimp only at hSw); go_simp; try with_reducible rfl)
            (try simp only [Act.put, List.getElem_toArray, List.getElem_cons_zero, List.getElem_cons_succ, List.setIfInBounds_toArray, List.set_cons_zero, List.set_cons_succ])
            refine wpAnyH_take (i := 19) (v := ?_) rfl (by kernel_rfl) (by kernel_rfl) (by kernel_rfl) (fun _ _ _ h => h) (Or.inl ⟨by rfl, ?_⟩) hHeld ?_
            rotate_left
            · (intro wS hSw; (try dsimp only at hSw); go_simp; try with_reducible rfl)
            (try simp only [Act.put, List.getElem_toArray, List.getElem_cons_zero, List.getElem_cons_succ, List.setIfInBounds_toArray, List.set_cons_zero, List.set_cons_succ])
            refine wpAnyH_ready (rs := [1, 20]) (by kernel_rfl) (by simp) ?_
            refine AllReadyH.cons rfl (fun K hK => ?_) (AllReadyH.cons rfl (fun K hK => ?_) AllReadyH.nil)
            · (try simp only [List.getElem_toArray, List.getElem_cons_zero, List.getElem_cons_succ, List.setIfInBounds_toArray, List.set_cons_zero, List.set_cons_succ])
              try go_simp
              refine hK.out _ _ ?_ (fun hHeld => ?_)
              · exact Below.drew (Below.refl _ _)
              (try simp only [Act.put, List.getElem_toArray, List.getElem_cons_zero, List.getElem_cons_succ, List.setIfInBounds_toArray, List.set_cons_zero, List.set_cons_succ])
              refine wpAnyH_ready (rs := [20]) (by kernel_rfl) (by simp) ?_
              refine AllReadyH.cons rfl (fun K hK => ?_) AllReadyH.nil
              · (try simp only [List.getElem_toArray, List.getElem_cons_zero, List.getElem_cons_succ, List.setIfInBounds_toArray, List.set_cons_zero, List.set_cons_succ])
                try go_simp
                refine (HEC.out _ (Below.drew (Below.refl _ _))).mono ?_
                rintro e w2 ⟨cq, rfl, hb2, hT⟩
                obtain ⟨YA, yc, YC, rfl, hyc, hyA, hyC⟩ := hT
                have HTw2 : Hid (TysV (memX w2 (wr.drew.heap.size ≤ ·)) cargs (.slice YA cargs.length yc)) := Lib.hid ⟨YA, yc, YC, rfl, hyc, hyA, hyC⟩
                clear hyc hyA hyC
                obtain ⟨ym, hym⟩ : ∃ x, x = cargs.length := ⟨_, rfl⟩
                rw [← hym] at HTw2 ⊢
                have HYM := Lib.hid hym
                clear hym
                have HBW : Hid (Below wr.heap.size wr w2) := Lib.hid (bl_tr (Below.drew (Below.refl _ _)) hb2)
                have hFw2 : w2.cell? ⟨g6, 4, none⟩ = some (.slice AX q2 cX) := (cell_of_row _ _ 4 _ _ _ (bk_below HKB.out HBW.out)).trans rfl
                clear hb2
                try go_simp
                refine hK.out _ _ ?_ (fun hHeld => ?_)
                · exact HBW.out.mono HSM.out
                (try simp only [Act.put, List.getElem_toArray, List.getElem_cons_zero, List.getElem_cons_succ, List.setIfInBounds_toArray, List.set_cons_zero, List.set_cons_succ])
                refine wpAnyH_take (i := 21) (v := ?_) rfl (by kernel_rfl) (by kernel_rfl) (by kernel_rfl) (fun _ _ _ h => h) (Or.inl ⟨by rfl, ?_⟩) hHeld ?_
                rotate_left
                · (intro wS hSw; (try dsimp only at hSw); go_simp; try with_reducible rfl)
                (try simp only [Act.put, List.getElem_toArray, List.getElem_cons_zero, List.getElem_cons_succ, List.setIfInBounds_toArray, List.set_cons_zero, List.set_cons_succ])
                refine wpAnyH_ready (rs := [22]) (by kernel_rfl) (by simp) ?_
                refine AllReadyH.cons rfl (fun K hK => ?_) AllReadyH.nil
                · (try simp only [List.getElem_toArray, List.getElem_cons_zero, List.getElem_cons_succ, List.setIfInBounds_toArray, List.set_cons_zero, List.set_cons_succ])
                  try go_simp
                  refine hK.out _ _ ?_ (fun hHeld => ?_)
                  · exact ((bl_al HBW.out _).mono HSM.out)
                  (try simp only [Act.put, List.getElem_toArray, List.getElem_cons_zero, List.getElem_cons_succ, List.setIfInBounds_toArray, List.set_cons_zero, List.set_cons_succ])
                  refine wpAnyH_ready (rs := [23]) (by kernel_rfl) (by simp) ?_
                  refine AllReadyH.cons rfl (fun K hK => ?_) AllReadyH.nil
                  · skip
                    refine step_append_lies _ rfl (.tmp 46) (.tmp 67) 169 rfl wc.heap.size 176 gi0 (.agg #[.int .i64 0, .string { data := #[] }, .slice none 0 0]) 3 48 Try.underlying169 hgi hgz0 hgzs hgzb rfl (by decide) (.slice AX q2 cX) q2 (flat q2 CX) rfl (HRW.out.below (GCo.mono cons) (bl_al HBW.out _)).own ⟨w2.heap.size, 0, none⟩ 1 1 [.int .i64 ca, .string cn, .slice YA ym yc] rfl rfl (World.news_of_block (cs := #[.int .i64 ca, .string cn, .slice YA ym yc]) (t := 176) (fr := (0, 0)) (heap_alloc_new w2 _)) (by simp [Value.oneCell']) (by decide) (by unfold maxLen; omega) (by omega) (by simp; have := HBW.out.size; have := HSB.out; omega) (w2.heap.size + 1) (by simp) ?_
                    intro g4 cap4 w4 hown4 hgrow4 hat4 hglt4
                    have HOW := Lib.hid hown4; have HGR := Lib.hid hgrow4; have HAT := Lib.hid hat4; clear hown4 hgrow4 hat4 hglt4
                    have HK4 : Hid (Blk w4 g6 171 #[.int .i64 kk, .int .i64 aa, .string ss, .slice Av nv cw, .slice AX q2 cX, .int .i64 u0, .int .i64 u1, .string u2, u3, .slice Aq pats.length cq2, .int .i64 f0, .int .i64 f1, .string f2, .int .i64 f3, f4, f5, f6, f7]) := Lib.hid ((HGR.out.block g6 (by have := HGL.out; have := HBW.out.size; simp; omega) (by intro e; have := (ownB_lt HRW.out.own e.symm).1; have := HGB.out; omega)).trans (bk_alloc (bk_below HKB.out HBW.out) _))
                    have hc4 : w4.cell? ⟨g6, 4, none⟩ = some (.slice AX q2 cX) := (cell_of_row _ _ 4 _ _ _ HK4.out).trans rfl
                    have hf4 : w4.frozen? ⟨g6, 4, none⟩ = false := frozen_of_row _ _ 4 _ _ HK4.out
                    refine hK.out _ _ ?_ (fun hHeld => ?_)
                    · exact (((bl_al HBW.out _).mono HSM.out)).grown HGR.out (by simp; have := HBW.out.size; have := HSM.out; omega) (fun k hk => by have := (ownB_lt HRW.out.own hk).1; have := HSG.out; have := HGB.out; omega)
                    (try simp only [Act.put, List.getElem_toArray, List.getElem_cons_zero, List.getElem_cons_succ, List.setIfInBounds_toArray, List.set_cons_zero, List.set_cons_succ])
                    refine wpAnyH_take (i := 24) (v := ?_) rfl (by kernel_rfl) (by kernel_rfl) (by kernel_rfl) (fun _ _ _ h => h) (Or.inl ⟨by rfl, ?_⟩) hHeld ?_
                    rotate_left
                    · (intro wS hSw; (try dsimp only at hSw); go_simp; try with_reducible rfl)
                    (try simp only [Act.put, List.getElem_toArray, List.getElem_cons_zero, List.getElem_cons_succ, List.setIfInBounds_toArray, List.set_cons_zero, List.set_cons_succ])
                    refine wpAnyH_ready (rs := [25]) (by kernel_rfl) (by simp) ?_
                    refine AllReadyH.cons rfl (fun K hK => ?_) AllReadyH.nil
                    · (try simp only [List.getElem_toArray, List.getElem_cons_zero, List.getElem_cons_succ, List.setIfInBounds_toArray, List.set_cons_zero, List.set_cons_succ])
                      try go_simp
                      refine hK.out _ _ ?_ (fun hHeld => ?_)
                      · exact ((((bl_al HBW.out _).mono HSM.out)).grown HGR.out (by simp; have := HBW.out.size; have := HSM.out; omega) (fun k hk => by have := (ownB_lt HRW.out.own hk).1; have := HSG.out; have := HGB.out; omega)).setCell HSG.out _
                      (try simp only [Act.put, List.getElem_toArray, List.getElem_cons_zero, List.getElem_cons_succ, List.setIfInBounds_toArray, List.set_cons_zero, List.set_cons_succ])
                      refine wpAnyH_done (by kernel_rfl) ?_ _
                      go_wp2_with fail
                      go_roundg (nc - (q2 + 1))
                      case measure => omega
                      case rel =>
                        have hrp := RowX.push (GCo.mono cons) (w := wr) (w2 := w2.alloc (.cells #[.int .i64 ca, .string cn, .slice YA ym yc] 176)) HRW.out (bl_al HBW.out _) (fun g hg => Nat.le_trans HSB.out hg) (cs := [.int .i64 ca, .string cn, .slice YA ym yc]) ⟨hpl, _, by rw [← HXQ.out], by rw [← HXQ.out]; have h := HTw2.out; rw [HYM.out] at h ⊢; exact h.mono (memX_le_X fun g hg hx => ⟨hx, Below.heap_alloc w2 _ g hg⟩)⟩ rfl HOW.out HGR.out (by have := HAT.out; simpa using this)
                        refine ⟨q2 + 1, by omega, rfl, by go_num, Lib.hid ⟨?_, some ⟨g4, 0, none⟩, cap4, _, ?_, RowX.same (GCo.mono cons) hrp (fun k hk hx => Below.heap_setCell w4 _ _ k ?_)⟩⟩
                        · exact But.cell (HBU.out.trans (But.of ((bl_al HBW.out _).mono HSB.out |>.grown HGR.out (by simp; have := HBW.out.size; have := HSB.out; omega) (fun k hk => (ownB_lt HRW.out.own hk).1)))) _ _
                        · exact (heap_setCell_same w4 g6 4 _ _ _ HK4.out).trans rfl
                        · have := HGB.out
                          rcases hx with hx | hx
                          · show k ≠ g6; omega
                          · have := (ownB_lt hrp.own hx.symm).1; show k ≠ g6; omega
            · (try simp only [List.getElem_toArray, List.getElem_cons_zero, List.getElem_cons_succ, List.setIfInBounds_toArray, List.set_cons_zero, List.set_cons_succ])
              try go_simp
              refine (HEC.out _ (Below.drew (Below.refl _ _))).mono ?_
              rintro e w2 ⟨cq, rfl, hb2, hT⟩
              obtain ⟨YA, yc, YC, rfl, hyc, hyA, hyC⟩ := hT
              have HTw2 : Hid (TysV (memX w2 (wr.drew.heap.size ≤ ·)) cargs (.slice YA cargs.length yc)) := Lib.hid ⟨YA, yc, YC, rfl, hyc, hyA, hyC⟩
              clear hyc hyA hyC
              obtain ⟨ym, hym⟩ : ∃ x, x = cargs.length := ⟨_, rfl⟩
              rw [← hym] at HTw2 ⊢
              have HYM := Lib.hid hym
              clear hym
              have HBW : Hid (Below wr.heap.size wr w2) := Lib.hid (bl_tr (Below.drew (Below.refl _ _)) hb2)
              have hFw2 : w2.cell? ⟨g6, 4, none⟩ = some (.slice AX q2 cX) := (cell_of_row _ _ 4 _ _ _ (bk_below HKB.out HBW.out)).trans rfl
              clear hb2
              try go_simp
              refine hK.out _ _ ?_ (fun hHeld => ?_)
              · exact HBW.out.mono HSM.out
              (try simp only [Act.put, List.getElem_toArray, List.getElem_cons_zero, List.getElem_cons_succ, List.setIfInBounds_toArray, List.set_cons_zero, List.set_cons_succ])
              refine wpAnyH_take (i := 21) (v := ?_) rfl (by kernel_rfl) (by kernel_rfl) (by kernel_rfl) (fun _ _ _ h => h) (Or.inl ⟨by rfl, ?_⟩) hHeld ?_
              rotate_left
              · (intro wS hSw; (try dsimp only at hSw); go_simp; try with_reducible rfl)
              (try simp only [Act.put, List.getElem_toArray, List.getElem_cons_zero, List.getElem_cons_succ, List.setIfInBounds_toArray, List.set_cons_zero, List.set_cons_succ])
              refine wpAnyH_ready (rs := [1, 22]) (by kernel_rfl) (by simp) ?_
              refine AllReadyH.cons rfl (fun K hK => ?_) (AllReadyH.cons rfl (fun K hK => ?_) AllReadyH.nil)
              · (try simp only [List.getElem_toArray, List.getElem_cons_zero, List.getElem_cons_succ, List.setIfInBounds_toArray, List.set_cons_zero, List.set_cons_succ])
                try go_simp
                refine hK.out _ _ ?_ (fun hHeld => ?_)
                · exact HBW.out.mono HSM.out
                (try simp only [Act.put, List.getElem_toArray, List.getElem_cons_zero, List.getElem_cons_succ, List.setIfInBounds_toArray, List.set_cons_zero, List.set_cons_succ])
                refine wpAnyH_ready (rs := [22]) (by kernel_rfl) (by simp) ?_
                refine AllReadyH.cons rfl (fun K hK => ?_) AllReadyH.nil
                · (try simp only [List.getElem_toArray, List.getElem_cons_zero, List.getElem_cons_succ, List.setIfInBounds_toArray, List.set_cons_zero, List.set_cons_succ])
                  try go_simp
                  refine hK.out _ _ ?_ (fun hHeld => ?_)
                  · exact ((bl_al HBW.out _).mono HSM.out)
                  (try simp only [Act.put, List.getElem_toArray, List.getElem_cons_zero, List.getElem_cons_succ, List.setIfInBounds_toArray, List.set_cons_zero, List.set_cons_succ])
                  refine wpAnyH_ready (rs := [23]) (by kernel_rfl) (by simp) ?_
                  refine AllReadyH.cons rfl (fun K hK => ?_) AllReadyH.nil
                  · skip
                    refine step_append_lies _ rfl (.tmp 46) (.tmp 67) 169 rfl wc.heap.size 176 gi0 (.agg #[.int .i64 0, .string { data := #[] }, .slice none 0 0]) 3 48 Try.underlying169 hgi hgz0 hgzs hgzb rfl (by decide) (.slice AX q2 cX) q2 (flat q2 CX) rfl (HRW.out.below (GCo.mono cons) (bl_al HBW.out _)).own ⟨w2.heap.size, 0, none⟩ 1 1 [.int .i64 ca, .string cn, .slice YA ym yc] rfl rfl (World.news_of_block (cs := #[.int .i64 ca, .string cn, .slice YA ym yc]) (t := 176) (fr := (0, 0)) (heap_alloc_new w2 _)) (by simp [Value.oneCell']) (by decide) (by unfold maxLen; omega) (by omega) (by simp; have := HBW.out.size; have := HSB.out; omega) (w2.heap.size + 1) (by simp) ?_
                    intro g4 cap4 w4 hown4 hgrow4 hat4 hglt4
                    have HOW := Lib.hid hown4; have HGR := Lib.hid hgrow4; have HAT := Lib.hid hat4; clear hown4 hgrow4 hat4 hglt4
                    have HK4 : Hid (Blk w4 g6 171 #[.int .i64 kk, .int .i64 aa, .string ss, .slice Av nv cw, .slice AX q2 cX, .int .i64 u0, .int .i64 u1, .string u2, u3, .slice Aq pats.length cq2, .int .i64 f0, .int .i64 f1, .string f2, .int .i64 f3, f4, f5, f6, f7]) := Lib.hid ((HGR.out.block g6 (by have := HGL.out; have := HBW.out.size; simp; omega) (by intro e; have := (ownB_lt HRW.out.own e.symm).1; have := HGB.out; omega)).trans (bk_alloc (bk_below HKB.out HBW.out) _))
                    have hc4 : w4.cell? ⟨g6, 4, none⟩ = some (.slice AX q2 cX) := (cell_of_row _ _ 4 _ _ _ HK4.out).trans rfl
                    have hf4 : w4.frozen? ⟨g6, 4, none⟩ = false := frozen_of_row _ _ 4 _ _ HK4.out
                    refine hK.out _ _ ?_ (fun hHeld => ?_)
                    · exact (((bl_al HBW.out _).mono HSM.out)).grown HGR.out (by simp; have := HBW.out.size; have := HSM.out; omega) (fun k hk => by have := (ownB_lt HRW.out.own hk).1; have := HSG.out; have := HGB.out; omega)
                    (try simp only [Act.put, List.getElem_toArray, List.getElem_cons_zero, List.getElem_cons_succ, List.setIfInBounds_toArray, List.set_cons_zero, List.set_cons_succ])
                    refine wpAnyH_take (i := 24) (v := ?_) rfl (by kernel_rfl) (by kernel_rfl) (by kernel_rfl) (fun _ _ _ h => h) (Or.inl ⟨by rfl, ?_⟩) hHeld ?_
                    rotate_left
                    · (intro wS hSw; (try dsimp only at hSw); go_simp; try with_reducible rfl)
                    (try simp only [Act.put, List.getElem_toArray, List.getElem_cons_zero, List.getElem_cons_succ, List.setIfInBounds_toArray, List.set_cons_zero, List.set_cons_succ])
                    refine wpAnyH_ready (rs := [25]) (by kernel_rfl) (by simp) ?_
                    refine AllReadyH.cons rfl (fun K hK => ?_) AllReadyH.nil
                    · (try simp only [List.getElem_toArray, List.getElem_cons_zero, List.getElem_cons_succ, List.setIfInBounds_toArray, List.set_cons_zero, List.set_cons_succ])
                      try go_simp
                      refine hK.out _ _ ?_ (fun hHeld => ?_)
                      · exact ((((bl_al HBW.out _).mono HSM.out)).grown HGR.out (by simp; have := HBW.out.size; have := HSM.out; omega) (fun k hk => by have := (ownB_lt HRW.out.own hk).1; have := HSG.out; have := HGB.out; omega)).setCell HSG.out _
                      (try simp only [Act.put, List.getElem_toArray, List.getElem_cons_zero, List.getElem_cons_succ, List.setIfInBounds_toArray, List.set_cons_zero, List.set_cons_succ])
                      refine wpAnyH_done (by kernel_rfl) ?_ _
                      go_wp2_with fail
                      go_roundg (nc - (q2 + 1))
                      case measure => omega
                      case rel =>
                        have hrp := RowX.push (GCo.mono cons) (w := wr) (w2 := w2.alloc (.cells #[.int .i64 ca, .string cn, .slice YA ym yc] 176)) HRW.out (bl_al HBW.out _) (fun g hg => Nat.le_trans HSB.out hg) (cs := [.int .i64 ca, .string cn, .slice YA ym yc]) ⟨hpl, _, by rw [← HXQ.out], by rw [← HXQ.out]; have h := HTw2.out; rw [HYM.out] at h ⊢; exact h.mono (memX_le_X fun g hg hx => ⟨hx, Below.heap_alloc w2 _ g hg⟩)⟩ rfl HOW.out HGR.out (by have := HAT.out; simpa using this)
                        refine ⟨q2 + 1, by omega, rfl, by go_num, Lib.hid ⟨?_, some ⟨g4, 0, none⟩, cap4, _, ?_, RowX.same (GCo.mono cons) hrp (fun k hk hx => Below.heap_setCell w4 _ _ k ?_)⟩⟩
                        · exact But.cell (HBU.out.trans (But.of ((bl_al HBW.out _).mono HSB.out |>.grown HGR.out (by simp; have := HBW.out.size; have := HSB.out; omega) (fun k hk => (ownB_lt HRW.out.own hk).1)))) _ _
                        · exact (heap_setCell_same w4 g6 4 _ _ _ HK4.out).trans rfl
                        · have := HGB.out
                          rcases hx with hx | hx
                          · show k ≠ g6; omega
                          · have := (ownB_lt hrp.own hx.symm).1; show k ≠ g6; omega
              · (try simp only [List.getElem_toArray, List.getElem_cons_zero, List.getElem_cons_succ, List.setIfInBounds_toArray, List.set_cons_zero, List.set_cons_succ])
                try go_simp
                have hF5 : (w2.alloc (.cells #[.int .i64 ca, .string cn, .slice YA ym yc] 176)).cell? ⟨g6, 4, none⟩ = some (.slice AX q2 cX) := (cell_of_row _ _ 4 _ _ _ (bk_alloc (bk_below HKB.out HBW.out) _)).trans rfl
                try go_simp
                refine hK.out _ _ ?_ (fun hHeld => ?_)
                · exact ((bl_al HBW.out _).mono HSM.out)
                (try simp only [Act.put, List.getElem_toArray, List.getElem_cons_zero, List.getElem_cons_succ, List.setIfInBounds_toArray, List.set_cons_zero, List.set_cons_succ])
                refine wpAnyH_ready (rs := [1]) (by kernel_rfl) (by simp) ?_
                refine AllReadyH.cons rfl (fun K hK => ?_) AllReadyH.nil
                · (try simp only [List.getElem_toArray, List.getElem_cons_zero, List.getElem_cons_succ, List.setIfInBounds_toArray, List.set_cons_zero, List.set_cons_succ])
                  try go_simp
                  refine hK.out _ _ ?_ (fun hHeld => ?_)
                  · exact ((bl_al HBW.out _).mono HSM.out)
                  (try simp only [Act.put, List.getElem_toArray, List.getElem_cons_zero, List.getElem_cons_succ, List.setIfInBounds_toArray, List.set_cons_zero, List.set_cons_succ])
                  refine wpAnyH_ready (rs := [23]) (by kernel_rfl) (by simp) ?_
                  refine AllReadyH.cons rfl (fun K hK => ?_) AllReadyH.nil
                  · skip
                    refine step_append_lies _ rfl (.tmp 46) (.tmp 67) 169 rfl wc.heap.size 176 gi0 (.agg #[.int .i64 0, .string { data := #[] }, .slice none 0 0]) 3 48 Try.underlying169 hgi hgz0 hgzs hgzb rfl (by decide) (.slice AX q2 cX) q2 (flat q2 CX) rfl (HRW.out.below (GCo.mono cons) (bl_al HBW.out _)).own ⟨w2.heap.size, 0, none⟩ 1 1 [.int .i64 ca, .string cn, .slice YA ym yc] rfl rfl (World.news_of_block (cs := #[.int .i64 ca, .string cn, .slice YA ym yc]) (t := 176) (fr := (0, 0)) (heap_alloc_new w2 _)) (by simp [Value.oneCell']) (by decide) (by unfold maxLen; omega) (by omega) (by simp; have := HBW.out.size; have := HSB.out; omega) (w2.heap.size + 1) (by simp) ?_
                    intro g4 cap4 w4 hown4 hgrow4 hat4 hglt4
                    have HOW := Lib.hid hown4; have HGR := Lib.hid hgrow4; have HAT := Lib.hid hat4; clear hown4 hgrow4 hat4 hglt4
                    have HK4 : Hid (Blk w4 g6 171 #[.int .i64 kk, .int .i64 aa, .string ss, .slice Av nv cw, .slice AX q2 cX, .int .i64 u0, .int .i64 u1, .string u2, u3, .slice Aq pats.length cq2, .int .i64 f0, .int .i64 f1, .string f2, .int .i64 f3, f4, f5, f6, f7]) := Lib.hid ((HGR.out.block g6 (by have := HGL.out; have := HBW.out.size; simp; omega) (by intro e; have := (ownB_lt HRW.out.own e.symm).1; have := HGB.out; omega)).trans (bk_alloc (bk_below HKB.out HBW.out) _))
                    have hc4 : w4.cell? ⟨g6, 4, none⟩ = some (.slice AX q2 cX) := (cell_of_row _ _ 4 _ _ _ HK4.out).trans rfl
                    have hf4 : w4.frozen? ⟨g6, 4, none⟩ = false := frozen_of_row _ _ 4 _ _ HK4.out
                    refine hK.out _ _ ?_ (fun hHeld => ?_)
                    · exact (((bl_al HBW.out _).mono HSM.out)).grown HGR.out (by simp; have := HBW.out.size; have := HSM.out; omega) (fun k hk => by have := (ownB_lt HRW.out.own hk).1; have := HSG.out; have := HGB.out; omega)
                    (try simp only [Act.put, List.getElem_toArray, List.getElem_cons_zero, List.getElem_cons_succ, List.setIfInBounds_toArray, List.set_cons_zero, List.set_cons_succ])
                    refine wpAnyH_take (i := 24) (v := ?_) rfl (by kernel_rfl) (by kernel_rfl) (by kernel_rfl) (fun _ _ _ h => h) (Or.inl ⟨by rfl, ?_⟩) hHeld ?_
                    rotate_left
                    · (intro wS hSw; (try dsimp only at hSw); go_simp; try with_reducible rfl)
                    (try simp only [Act.put, List.getElem_toArray, List.getElem_cons_zero, List.getElem_cons_succ, List.setIfInBounds_toArray, List.set_cons_zero, List.set_cons_succ])
                    refine wpAnyH_ready (rs := [25]) (by kernel_rfl) (by simp) ?_
                    refine AllReadyH.cons rfl (fun K hK => ?_) AllReadyH.nil
                    · (try simp only [List.getElem_toArray, List.getElem_cons_zero, List.getElem_cons_succ, List.setIfInBounds_toArray, List.set_cons_zero, List.set_cons_succ])
                      try go_simp
                      refine hK.out _ _ ?_ (fun hHeld => ?_)
                      · exact ((((bl_al HBW.out _).mono HSM.out)).grown HGR.out (by simp; have := HBW.out.size; have := HSM.out; omega) (fun k hk => by have := (ownB_lt HRW.out.own hk).1; have := HSG.out; have := HGB.out; omega)).setCell HSG.out _
                      (try simp only [Act.put, List.getElem_toArray, List.getElem_cons_zero, List.getElem_cons_succ, List.setIfInBounds_toArray, List.set_cons_zero, List.set_cons_succ])
                      refine wpAnyH_done (by kernel_rfl) ?_ _
                      go_wp2_with fail
                      go_roundg (nc - (q2 + 1))
                      case measure => omega
                      case rel =>
                        have hrp := RowX.push (GCo.mono cons) (w := wr) (w2 := w2.alloc (.cells #[.int .i64 ca, .string cn, .slice YA ym yc] 176)) HRW.out (bl_al HBW.out _) (fun g hg => Nat.le_trans HSB.out hg) (cs := [.int .i64 ca, .string cn, .slice YA ym yc]) ⟨hpl, _, by rw [← HXQ.out], by rw [← HXQ.out]; have h := HTw2.out; rw [HYM.out] at h ⊢; exact h.mono (memX_le_X fun g hg hx => ⟨hx, Below.heap_alloc w2 _ g hg⟩)⟩ rfl HOW.out HGR.out (by have := HAT.out; simpa using this)
                        refine ⟨q2 + 1, by omega, rfl, by go_num, Lib.hid ⟨?_, some ⟨g4, 0, none⟩, cap4, _, ?_, RowX.same (GCo.mono cons) hrp (fun k hk hx => Below.heap_setCell w4 _ _ k ?_)⟩⟩
                        · exact But.cell (HBU.out.trans (But.of ((bl_al HBW.out _).mono HSB.out |>.grown HGR.out (by simp; have := HBW.out.size; have := HSB.out; omega) (fun k hk => (ownB_lt HRW.out.own hk).1)))) _ _
                        · exact (heap_setCell_same w4 g6 4 _ _ _ HK4.out).trans rfl
                        · have := HGB.out
                          rcases hx with hx | hx
                          · show k ≠ g6; omega
                          · have := (ownB_lt hrp.own hx.symm).1; show k ≠ g6; omega
          · obtain rfl : nc = q2 := by omega
            have hbk := HKB.out
            have RR2 := Lib.hid (show wr.rangeAt g6 0 [.int .i64 kk, .int .i64 aa, .string ss, .slice Av nv cw, .slice AX nc cX, .int .i64 u0, .int .i64 u1, .string u2, u3, .slice Aq pats.length cq2, .int .i64 f0, .int .i64 f1, .string f2, .int .i64 f3, f4, f5, f6, f7] from fun j v hv => by rw [Nat.zero_add, cell_of_row wr _ _ _ _ _ HKB.out, List.getElem?_toArray]; exact hv)
            have IT := Lib.hid (show (Try.prog.info? 171).map (·.size) = some ([.int .i64 kk, .int .i64 aa, .string ss, .slice Av nv cw, .slice AX nc cX, .int .i64 u0, .int .i64 u1, .string u2, u3, .slice Aq pats.length cq2, .int .i64 f0, .int .i64 f1, .string f2, .int .i64 f3, f4, f5, f6, f7] : List Value).length from Try.riDecl)
            clear hbk
            have hwr := HBU.out.size
            have hg6 := HG3.out
            have hfar := HFAR.out
            have HVS : Hid (StrsV (memX wr (wo.heap.size ≤ ·)) vars (.slice Av nv cw)) := Lib.hid (HXD.out.vs.mono (memX_le_X fun g hg hx => ⟨by omega, HBU.out.block g hg hx.2⟩))
            have HTY : Hid (TyC (memX wr (wo.heap.size ≤ ·)) ty [.int .i64 u0, .int .i64 u1, .string u2, u3]) := Lib.hid (HXD.out.tys.mono (memX_le_X fun g hg hx => ⟨by omega, HBU.out.block g hg hx.2⟩))
            have HPT : Hid (PtsV (memX wr (wo.heap.size ≤ ·)) pats (.slice Aq pats.length cq2)) := Lib.hid (HXD.out.pts.mono' (memX_le_X fun g hg hx => ⟨by omega, HBU.out.block g hg hx.2⟩))
            have HEX : Hid (ExC (memX wr (wo.heap.size ≤ ·)) body [.int .i64 f0, .int .i64 f1, .string f2, .int .i64 f3, f4, f5, f6, f7]) := Lib.hid (HXD.out.exs.mono (memX_le_X fun g hg hx => ⟨by omega, HBU.out.block g hg hx.2⟩))
            have HCS : Hid (CosV (memX wr (wo.heap.size ≤ ·)) cons (.slice AX nc cX)) := Lib.hid (by
              have h := HRW.out
              rw [show nc = cons.length from HNC.out] at h
              have h1 := h.cos (Y := (wo.heap.size ≤ ·)) (fun g (hg : wc.heap.size ≤ g) => (by omega : wo.heap.size ≤ g)) (fun g hg _ => (by omega : wo.heap.size ≤ g))
              rw [show nc = cons.length from HNC.out]
              exact h1)
            have HO2 : Hid (∀ v ∈ [.int .i64 kk, .int .i64 aa, .string ss, .slice Av nv cw, .slice AX nc cX, .int .i64 u0, .int .i64 u1, .string u2, u3, .slice Aq pats.length cq2, .int .i64 f0, .int .i64 f1, .string f2, .int .i64 f3, f4, f5, f6, f7], v.oneCell' = true) := Lib.hid (fun v hv => own_ok (HTY.out.ok) (pts_ok HPT.out) HEX.out.ok v (by simpa using hv))
            have HBF : Hid (Below wo.heap.size wo wr) := HBR2
            have hbase : w.heap.size ≤ wr.heap.size := Nat.le_trans HBR.out.size HBF.out.size
            clear hwr hg6 hfar
            obtain ⟨gi0, hgi, hgz0, hgzs, hgzb⟩ := info_parts Try.infoD
            go_wp2_with (first | ((with_reducible refine at_ld 71 ?_); refine wpList_load_mid rfl 171 (.tmp 6) rfl g6 0 rfl [.int .i64 kk, .int .i64 aa, .string ss, .slice Av nv cw, .slice AX nc cX, .int .i64 u0, .int .i64 u1, .string u2, u3, .slice Aq pats.length cq2, .int .i64 f0, .int .i64 f1, .string f2, .int .i64 f3, f4, f5, f6, f7] _ RR2.out Try.underlying171 rfl IT.out ?_) | ((with_reducible refine at_app ?_); refine wpList_append_lies _ rfl (.tmp 70) (.tmp 72) 91 rfl w.heap.size 171 gi0 (.agg #[.int .i64 0, .int .i64 0, .string { data := #[] }, .slice none 0 0, .slice none 0 0, .int .i64 0, .int .i64 0, .string { data := #[] }, .slice none 0 0, .slice none 0 0, .int .i64 0, .int .i64 0, .string { data := #[] }, .int .i64 0, .slice none 0 0, .slice none 0 0, .slice none 0 0, .slice none 0 0]) 18 296 Try.underlying91 hgi hgz0 hgzs hgzb rfl (by decide) (.slice A1 q c1) q (flat q C2) rfl (HRO.out.below (GDe.mono l) (bl_al HBF.out _)).own ⟨wr.heap.size, 0, none⟩ 1 1 [.int .i64 kk, .int .i64 aa, .string ss, .slice Av nv cw, .slice AX nc cX, .int .i64 u0, .int .i64 u1, .string u2, u3, .slice Aq pats.length cq2, .int .i64 f0, .int .i64 f1, .string f2, .int .i64 f3, f4, f5, f6, f7] rfl rfl (World.news_of_block (cs := #[.int .i64 kk, .int .i64 aa, .string ss, .slice Av nv cw, .slice AX nc cX, .int .i64 u0, .int .i64 u1, .string u2, u3, .slice Aq pats.length cq2, .int .i64 f0, .int .i64 f1, .string f2, .int .i64 f3, f4, f5, f6, f7]) (t := 171) (fr := (0, 0)) (heap_alloc_new wr _)) HO2.out (by decide) (by unfold maxLen; omega) (by omega) (by simp; omega) (wr.heap.size + 1) (by simp) ?_; intro g9 cap9 w9 hown9 hgrow9 hat9 hglt9; have HOW := Lib.hid hown9; have HGR := Lib.hid hgrow9; have HAT := Lib.hid hat9; clear hown9 hgrow9 hat9))
            go_roundg (n1 - (q + 1))
            case measure => omega
            case rel =>
              have hde : DeC (memX (wr.alloc (.cells #[.int .i64 kk, .int .i64 aa, .string ss, .slice Av nv cw, .slice AX nc cX, .int .i64 u0, .int .i64 u1, .string u2, u3, .slice Aq pats.length cq2, .int .i64 f0, .int .i64 f1, .string f2, .int .i64 f3, f4, f5, f6, f7] 171)) (wo.heap.size ≤ ·)) (.mk kk aa ss vars cons ty pats body) ([.int .i64 kk, .int .i64 aa, .string ss, .slice Av nv cw, .slice AX nc cX] ++ [.int .i64 u0, .int .i64 u1, .string u2, u3] ++ [.slice Aq pats.length cq2] ++ [.int .i64 f0, .int .i64 f1, .string f2, .int .i64 f3, f4, f5, f6, f7]) := by
                have hm : (memX wr (wo.heap.size ≤ ·)).le (memX (wr.alloc (.cells #[.int .i64 kk, .int .i64 aa, .string ss, .slice Av nv cw, .slice AX nc cX, .int .i64 u0, .int .i64 u1, .string u2, u3, .slice Aq pats.length cq2, .int .i64 f0, .int .i64 f1, .string f2, .int .i64 f3, f4, f5, f6, f7] 171)) (wo.heap.size ≤ ·)) := memX_le_X fun g hg hx => ⟨hx, Below.heap_alloc wr _ g hg⟩
                exact .mk _ _ _ _ _ _ _ _ _ _ _ _ _ (HVS.out.mono hm) HDK.out (HCS.out.mono hm) (HTY.out.mono hm) (HPT.out.mono' hm) (HEX.out.mono hm)
              refine ⟨q + 1, by omega, rfl, by go_num, Lib.hid ?_, Lib.hid ⟨_, RowX.push (GDe.mono l) (w := wo) (w2 := wr.alloc (.cells #[.int .i64 kk, .int .i64 aa, .string ss, .slice Av nv cw, .slice AX nc cX, .int .i64 u0, .int .i64 u1, .string u2, u3, .slice Aq pats.length cq2, .int .i64 f0, .int .i64 f1, .string f2, .int .i64 f3, f4, f5, f6, f7] 171)) HRO.out (bl_al HBF.out _) (fun g hg => Nat.le_trans HBR.out.size hg) (cs := [.int .i64 kk, .int .i64 aa, .string ss, .slice Av nv cw, .slice AX nc cX, .int .i64 u0, .int .i64 u1, .string u2, u3, .slice Aq pats.length cq2, .int .i64 f0, .int .i64 f1, .string f2, .int .i64 f3, f4, f5, f6, f7]) ⟨hql, by rw [← HX.out]; exact hde⟩ rfl HOW.out HGR.out (by have := HAT.out; simpa using this)⟩⟩
              exact ((bl_al (bl_tr HBR.out HBF.out) _)).grown HGR.out (by simp; omega) (fun k hk => (ownB_lt HRO.out.own hk).1)
    · obtain rfl : n1 = q := by omega
      go_wp2_with fail
      go_ret
      have h := HRO.out
      rw [show n1 = l.length from HN.out] at h ⊢
      exact ⟨_, rfl, HBR.out, h.des (fun _ h => h) (fun _ h _ => h)⟩
end Go.Proofs.Ytfeghobfkgimfaa
