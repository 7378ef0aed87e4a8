/- The document's types, copied: the loop. -/
import Derived.Test.YtfeghobfkgimfaaTreeV
import Derived.Deep.AppendLies
namespace Go.Proofs.Ytfeghobfkgimfaa
set_option linter.unusedSimpArgs false
set_option linter.unusedVariables false
open Go.RowKit Go.Shelf

theorem TyC.sh2 {m : Mem} {d : Ty} {cs : List Value} (h : TyC m d cs) : ∃ (a b : Int) (s : ByteArray) (A : Option Addr) (n c : Nat), cs = [.int .i64 a, .int .i64 b, .string s, .slice A n c] := by
  cases h; exact ⟨_, _, _, _, _, _, rfl⟩
def GTy (l : List Ty) (m : Mem) (i : Nat) (cs : List Value) : Prop := ∃ hi : i < l.length, TyC m l[i] cs
theorem GTy.mono (l : List Ty) : ∀ m m' i cs, Mem.le m m' → GTy l m i cs → GTy l m' i cs := fun _ _ _ _ hm ⟨hi, h⟩ => ⟨hi, h.mono hm⟩
theorem at_app {P : Program} {ops : Array Oper} {rest : List Oper} {a : Act} {w : World} {Q : Exit → Act → World → Prop} {D : Option Tmp} {args : Array Operand} {tys : Array TypeId} {ty : TypeId} {pos : String} {af : Array Edge} {g : Option (Nat × Bool)}
    (h : wpList P ops Q (⟨D, .call { callee := .builtin .append, args := args, argTypes := tys }, ty, pos, af, g⟩ :: rest) a w) : wpList P ops Q (⟨D, .call { callee := .builtin .append, args := args, argTypes := tys }, ty, pos, af, g⟩ :: rest) a w := h
theorem rowo_slice {base : Nat} {w : World} {e : TypeId} {size : Nat} {v : Value} {n : Nat} {xs : List Value} (h : w.ownsRow base e size v n xs) : ∃ A c, v = .slice A n c := by
  rcases h.2 with ⟨rfl, rfl⟩ | ⟨g, cap, cur, rfl, _⟩
  · exact ⟨_, _, rfl⟩
  · exact ⟨_, _, rfl⟩
theorem Try.infoTT : (Try.prog.info? 167).map (fun i => (i.zero, i.size, i.bytes)) = some (some (.agg #[.int .i64 0, .int .i64 0, .string { data := #[] }, .slice none 0 0]), 4, 56) := by kernel_rfl

set_option maxRecDepth 100000 in
set_option maxHeartbeats 4000000 in
theorem ownTys_of (l : List Ty) (v : Value) (w : World) (hv : TysV (mem w) l v) (hlen : l.length ≤ 100000)
    (ih : ∀ D ∈ l, ∀ cs W, TyC (mem W) D cs → Calls Try.prog 90 #[.agg cs.toArray] W (OwnTyV W D)) :
    Calls Try.prog 91 #[v] w (OwnTysV w l) := by
  obtain ⟨A, c, C, rfl, hc, hA, hC⟩ := hv
  have HA := Lib.hid hA; have HCC := Lib.hid hC; have HI := Lib.hid ih
  have O1 : Hid (∀ i, i < l.length → (C i).length = 4) := Lib.hid (fun i hi => (hC i hi).len)
  clear hA hC ih hc
  obtain ⟨n1, e1⟩ : ∃ x, x = l.length := ⟨_, rfl⟩
  rw [← e1] at HA O1 hlen
  have HN := Lib.hid e1
  rw [← HN.out]
  clear e1
  have IT := Lib.hid (show (Try.prog.info? 162).map (·.size) = some 4 from Try.irT)
  obtain ⟨gi0, hgi, hgz0, hgzs, hgzb⟩ := info_parts Try.infoTT
  go_enter Try.func91, Try.ntmps91
  go_wp2_with fail
  go_loopg [3, 4] n1 (fun gk out i wr => ∃ (q : Nat), q ≤ n1 ∧ gk = n1 - q ∧ i = .int .i64 q ∧ Hid (Below w.heap.size w wr) ∧ Hid (∃ C2, RowO wr w.heap.size 167 4 out q C2 (GTy l)))
  case atStart => exact ⟨0, Nat.zero_le _, rfl, rfl, Lib.hid (Below.refl _ _), Lib.hid ⟨fun _ => [], RowO.nil _ _ _ _ _ _⟩⟩
  case round =>
    rename_i out _ _
    obtain ⟨q, hq, rfl, rfl, HBR, HR⟩ := hrel
    obtain ⟨C2, hR⟩ := HR.out
    obtain ⟨A1, c1, e1⟩ := rowo_slice hR.own
    subst e1
    clear HR
    by_cases hlt : q < n1
    · obtain ⟨g, o, rfl, hc1⟩ := HA.out (by omega)
      have hql : q < l.length := by rw [← HN.out]; exact hlt
      have hcq := (HCC.out q hql).mono (mem_below HBR.out)
      have r1 := range_at HBR.out hc1 hlt (O1.out q hlt)
      have hcall := HI.out l[q] (List.getElem_mem hql) (C q) wr hcq
      obtain ⟨ka, kb, kc, kd, ec⟩ := hcq.sh
      rw [ec] at r1 hcall
      have RR := Lib.hid r1; have HCQ := Lib.hid hcall; have HRO := Lib.hid hR
      have hk1 : (q : Int) < (n1 : Int) := by omega
      clear hc1 r1 hcall hcq ec hR
      go_wp2_with (((with_reducible refine at_ld 15 ?_); refine wpList_load_mid rfl 162 (.tmp 14) rfl g (o + q * 4) rfl [.int .i64 ka, .int .i64 kb, .string kc, kd] _ RR.out Try.underlying162 rfl IT.out ?_))
      refine HCQ.out.mono ?_
      rintro e w2 ⟨cs, rfl, hb2, hT⟩
      obtain ⟨na, nb, nc, nA, nn, nm, rfl⟩ := hT.sh2
      have HB2 := Lib.hid hb2; have HT := Lib.hid hT
      have hR2 := HRO.out.below (GTy.mono l) hb2
      have HR2 := Lib.hid hR2
      have hbase : w.heap.size ≤ w2.heap.size := Nat.le_trans HBR.out.size hb2.size
      clear hb2 hT hR2
      go_wp2_with ((with_reducible refine at_app ?_); refine wpList_append_lies _ rfl (.tmp 11) (.tmp 17) 165 rfl w.heap.size 167 gi0 (.agg #[.int .i64 0, .int .i64 0, .string { data := #[] }, .slice none 0 0]) 4 56 Try.underlying165 hgi hgz0 hgzs hgzb rfl (by decide) (.slice A1 q c1) q (flat q C2) rfl ((HR2.out.below (GTy.mono l) (bl1 w2 _)).own) ⟨w2.heap.size, 0, none⟩ 1 1 [.int .i64 na, .int .i64 nb, .string nc, .slice nA nn nm] rfl rfl (World.news_of_block (cs := #[.int .i64 na, .int .i64 nb, .string nc, .slice nA nn nm]) (t := 167) (fr := (0, 0)) (heap_alloc_new w2 _)) (by simp [Value.oneCell']) (by decide) (by unfold maxLen; omega) (by omega) (by simp; omega) (w2.heap.size + 1) (by simp) ?_; intro g3 cap3 w3 hown3 hgrow3 hat3 hglt3; have HOW := Lib.hid hown3; have HGR := Lib.hid hgrow3; have HAT := Lib.hid hat3; clear hown3 hgrow3 hat3)
      go_roundg (n1 - (q + 1))
      case measure => omega
      case rel =>
        refine ⟨q + 1, by omega, rfl, by go_num, Lib.hid ?_, Lib.hid ⟨_, RowO.push (GTy.mono l) (w := wr) (w2 := w2.alloc (.cells #[.int .i64 na, .int .i64 nb, .string nc, .slice nA nn nm] 167)) HRO.out (bl_al HB2.out _) HBR.out.size ⟨hql, HT.out.mono (memX_le_X fun g' hg' hx => ⟨hx, Below.heap_alloc w2 _ g' hg'⟩)⟩ rfl HOW.out HGR.out (by have := HAT.out; simpa using this)⟩⟩
        exact (bl_al (bl_tr HBR.out HB2.out) _).grown HGR.out (by simp; omega) (fun k hk => (ownB_lt HRO.out.own hk).1)
    · obtain rfl : n1 = q := by omega
      go_wp2_with fail
      go_ret
      obtain ⟨A2, c2, e2, hc2, hs2, hg2⟩ := hR.slice (GTy.mono l)
      refine ⟨_, rfl, HBR.out, A2, c2, C2, e2.trans (by rw [← HN.out]), by rw [← HN.out]; exact hc2, by rw [← HN.out]; exact hs2, fun i hi => (hg2 i (by rw [HN.out]; exact hi)).2⟩
theorem cntTys_mem {l : List Ty} {D : Ty} (h : D ∈ l) : cntTys [D] ≤ cntTys l := by
  induction l with
  | nil => cases h
  | cons x l ih =>
    rcases List.mem_cons.1 h with rfl | h
    · cases D; simp only [cntTys]; omega
    · have := ih h
      cases x; simp only [cntTys] at this ⊢; omega

theorem len_cntTys (l : List Ty) : l.length ≤ cntTys l := by
  induction l with
  | nil => exact Nat.zero_le _
  | cons x l ih => cases x; rw [cntTys, List.length_cons]; omega
theorem ownTy_ring (n : Nat) : ∀ (D : Ty) (cs : List Value) (w : World), SizeOf.sizeOf D < n → cntTys [D] ≤ 100000 → TyC (mem w) D cs → Calls Try.prog 90 #[.agg cs.toArray] w (OwnTyV w D) := by
  induction n with
  | zero => intro D cs w h; omega
  | succ n ih =>
    intro D cs w hn hcnt hD
    refine ownTy_of D cs w hD (fun k a s l e v W hv => ?_)
    subst e
    simp only [cntTys] at hcnt
    refine ownTys_of l v W hv (by have := len_cntTys l; omega) (fun D' hD' cs' W' hC' => ih D' cs' W' ?_ ?_ hC')
    · have := List.sizeOf_lt_of_mem hD'
      simp at hn; omega
    · have := cntTys_mem hD'
      omega
theorem ownTy_any (D : Ty) (cs : List Value) (w : World) (hcnt : cntTys [D] ≤ 100000) (hD : TyC (mem w) D cs) : Calls Try.prog 90 #[.agg cs.toArray] w (OwnTyV w D) := ownTy_ring _ D cs w (Nat.lt_succ_self _) hcnt hD
theorem ownTys_any (l : List Ty) (v : Value) (w : World) (hcnt : cntTys l ≤ 100000) (hv : TysV (mem w) l v) : Calls Try.prog 91 #[v] w (OwnTysV w l) :=
  ownTys_of l v w hv (by have := len_cntTys l; omega) (fun D hD cs W hC => ownTy_any D cs W (by have := cntTys_mem hD; omega) hC)
end Go.Proofs.Ytfeghobfkgimfaa
