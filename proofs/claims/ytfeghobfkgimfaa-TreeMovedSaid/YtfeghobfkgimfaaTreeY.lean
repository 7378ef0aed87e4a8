/- The document's types, copied: the loop. -/
import Derived.Test.YtfeghobfkgimfaaTreeX
import Derived.Deep.AppendLies
namespace Go.Proofs.Ytfeghobfkgimfaa
set_option linter.unusedSimpArgs false
set_option linter.unusedVariables false
open Go.RowKit Go.Shelf

theorem PtC.sh2 {m : Mem} {d : Pt} {cs : List Value} (h : PtC m d cs) : ∃ (a b : Int) (s : ByteArray) (e : Int) (A : Option Addr) (n c : Nat), cs = [.int .i64 a, .int .i64 b, .string s, .int .i64 e, .slice A n c] := by
  cases h; exact ⟨_, _, _, _, _, _, _, rfl⟩
def GPt (l : List Pt) (m : Mem) (i : Nat) (cs : List Value) : Prop := ∃ hi : i < l.length, PtC m l[i] cs
theorem GPt.mono (l : List Pt) : ∀ m m' i cs, Mem.le m m' → GPt l m i cs → GPt l m' i cs := fun _ _ _ _ hm ⟨hi, h⟩ => ⟨hi, h.mono hm⟩
theorem Try.infoPP : (Try.prog.info? 128).map (fun i => (i.zero, i.size, i.bytes)) = some (some (.agg #[.int .i64 0, .int .i64 0, .string { data := #[] }, .int .i64 0, .slice none 0 0]), 5, 64) := by kernel_rfl

set_option maxRecDepth 100000 in
set_option maxHeartbeats 4000000 in
theorem ownPts_of (l : List Pt) (v : Value) (w : World) (hv : PtsV (mem w) l v) (hlen : l.length ≤ 100000)
    (ih : ∀ D ∈ l, ∀ cs W, PtC (mem W) D cs → Calls Try.prog 70 #[.agg cs.toArray] W (OwnPtV W D)) :
    Calls Try.prog 68 #[v] w (OwnPtsV w l) := by
  obtain ⟨A, c, C, rfl, hc, hA, hC⟩ := hv
  have HA := Lib.hid hA; have HCC := Lib.hid hC; have HI := Lib.hid ih
  have O1 : Hid (∀ i, i < l.length → (C i).length = 5) := Lib.hid (fun i hi => (hC i hi).len)
  clear hA hC ih hc
  obtain ⟨n1, e1⟩ : ∃ x, x = l.length := ⟨_, rfl⟩
  rw [← e1] at HA O1 hlen
  have HN := Lib.hid e1
  rw [← HN.out]
  clear e1
  have IT := Lib.hid (show (Try.prog.info? 131).map (·.size) = some 5 from Try.irP)
  obtain ⟨gi0, hgi, hgz0, hgzs, hgzb⟩ := info_parts Try.infoPP
  go_enter Try.func68, Try.ntmps68
  go_wp2_with fail
  go_loopg [3, 4] n1 (fun gk out i wr => ∃ (q : Nat), q ≤ n1 ∧ gk = n1 - q ∧ i = .int .i64 q ∧ Hid (Below w.heap.size w wr) ∧ Hid (∃ C2, RowO wr w.heap.size 128 5 out q C2 (GPt l)))
  case atStart => exact ⟨0, Nat.zero_le _, rfl, rfl, Lib.hid (Below.refl _ _), Lib.hid ⟨fun _ => [], RowO.nil _ _ _ _ _ _⟩⟩
  case round =>
    rename_i out _ _
    obtain ⟨q, hq, rfl, rfl, HBR, HR⟩ := hrel
    obtain ⟨C2, hR⟩ := HR.out
    obtain ⟨A1, c1, e1⟩ := rowo_slice hR.own
    subst e1
    clear HR
    by_cases hlt : q < n1
    · obtain ⟨g, o, rfl, hc1⟩ := HA.out (by omega)
      have hql : q < l.length := by rw [← HN.out]; exact hlt
      have hcq := (HCC.out q hql).mono (mem_below HBR.out)
      have r1 := range_at HBR.out hc1 hlt (O1.out q hlt)
      have hcall := HI.out l[q] (List.getElem_mem hql) (C q) wr hcq
      obtain ⟨ka, kb, kc, ke, kd, ec⟩ := hcq.sh
      rw [ec] at r1 hcall
      have RR := Lib.hid r1; have HCQ := Lib.hid hcall; have HRO := Lib.hid hR
      have hk1 : (q : Int) < (n1 : Int) := by omega
      clear hc1 r1 hcall hcq ec hR
      go_wp2_with (((with_reducible refine at_ld 15 ?_); refine wpList_load_mid rfl 131 (.tmp 14) rfl g (o + q * 5) rfl [.int .i64 ka, .int .i64 kb, .string kc, .int .i64 ke, kd] _ RR.out Try.underlying131 rfl IT.out ?_))
      refine HCQ.out.mono ?_
      rintro e w2 ⟨cs, rfl, hb2, hT⟩
      obtain ⟨na, nb, nc, ne, nA, nn, nm, rfl⟩ := hT.sh2
      have HB2 := Lib.hid hb2; have HT := Lib.hid hT
      have hR2 := HRO.out.below (GPt.mono l) hb2
      have HR2 := Lib.hid hR2
      have hbase : w.heap.size ≤ w2.heap.size := Nat.le_trans HBR.out.size hb2.size
      clear hb2 hT hR2
      go_wp2_with ((with_reducible refine at_app ?_); refine wpList_append_lies _ rfl (.tmp 11) (.tmp 17) 89 rfl w.heap.size 128 gi0 (.agg #[.int .i64 0, .int .i64 0, .string { data := #[] }, .int .i64 0, .slice none 0 0]) 5 64 Try.underlying89 hgi hgz0 hgzs hgzb rfl (by decide) (.slice A1 q c1) q (flat q C2) rfl ((HR2.out.below (GPt.mono l) (bl1 w2 _)).own) ⟨w2.heap.size, 0, none⟩ 1 1 [.int .i64 na, .int .i64 nb, .string nc, .int .i64 ne, .slice nA nn nm] rfl rfl (World.news_of_block (cs := #[.int .i64 na, .int .i64 nb, .string nc, .int .i64 ne, .slice nA nn nm]) (t := 128) (fr := (0, 0)) (heap_alloc_new w2 _)) (by simp [Value.oneCell']) (by decide) (by unfold maxLen; omega) (by omega) (by simp; omega) (w2.heap.size + 1) (by simp) ?_; intro g3 cap3 w3 hown3 hgrow3 hat3 hglt3; have HOW := Lib.hid hown3; have HGR := Lib.hid hgrow3; have HAT := Lib.hid hat3; clear hown3 hgrow3 hat3)
      go_roundg (n1 - (q + 1))
      case measure => omega
      case rel =>
        refine ⟨q + 1, by omega, rfl, by go_num, Lib.hid ?_, Lib.hid ⟨_, RowO.push (GPt.mono l) (w := wr) (w2 := w2.alloc (.cells #[.int .i64 na, .int .i64 nb, .string nc, .int .i64 ne, .slice nA nn nm] 128)) HRO.out (bl_al HB2.out _) HBR.out.size ⟨hql, HT.out.mono (memX_le_X fun g' hg' hx => ⟨hx, Below.heap_alloc w2 _ g' hg'⟩)⟩ rfl HOW.out HGR.out (by have := HAT.out; simpa using this)⟩⟩
        exact (bl_al (bl_tr HBR.out HB2.out) _).grown HGR.out (by simp; omega) (fun k hk => (ownB_lt HRO.out.own hk).1)
    · obtain rfl : n1 = q := by omega
      go_wp2_with fail
      go_ret
      obtain ⟨A2, c2, e2, hc2, hs2, hg2⟩ := hR.slice (GPt.mono l)
      refine ⟨_, rfl, HBR.out, A2, c2, C2, e2.trans (by rw [← HN.out]), by rw [← HN.out]; exact hc2, by rw [← HN.out]; exact hs2, fun i hi => (hg2 i (by rw [HN.out]; exact hi)).2⟩
theorem cntPts_mem {l : List Pt} {D : Pt} (h : D ∈ l) : cntPts [D] ≤ cntPts l := by
  induction l with
  | nil => cases h
  | cons x l ih =>
    rcases List.mem_cons.1 h with rfl | h
    · cases D; simp only [cntPts]; omega
    · have := ih h
      cases x; simp only [cntPts] at this ⊢; omega

theorem len_cntPts (l : List Pt) : l.length ≤ cntPts l := by
  induction l with
  | nil => exact Nat.zero_le _
  | cons x l ih => cases x; rw [cntPts, List.length_cons]; omega
theorem ownPt_ring (nn : Nat) : ∀ (D : Pt) (cs : List Value) (w : World), SizeOf.sizeOf D < nn → cntPts [D] ≤ 100000 → PtC (mem w) D cs → Calls Try.prog 70 #[.agg cs.toArray] w (OwnPtV w D) := by
  induction nn with
  | zero => intro D cs w h; omega
  | succ nn ih =>
    intro D cs w hn hcnt hD
    refine ownPt_of D cs w hD (fun k a s n l e v W hv => ?_)
    subst e
    simp only [cntPts] at hcnt
    refine ownPts_of l v W hv (by have := len_cntPts l; omega) (fun D' hD' cs' W' hC' => ih D' cs' W' ?_ ?_ hC')
    · have := List.sizeOf_lt_of_mem hD'
      simp at hn; omega
    · have := cntPts_mem hD'
      omega
theorem ownPt_any (D : Pt) (cs : List Value) (w : World) (hcnt : cntPts [D] ≤ 100000) (hD : PtC (mem w) D cs) : Calls Try.prog 70 #[.agg cs.toArray] w (OwnPtV w D) := ownPt_ring _ D cs w (Nat.lt_succ_self _) hcnt hD
theorem ownPts_any (l : List Pt) (v : Value) (w : World) (hcnt : cntPts l ≤ 100000) (hv : PtsV (mem w) l v) : Calls Try.prog 68 #[v] w (OwnPtsV w l) :=
  ownPts_of l v w hv (by have := len_cntPts l; omega) (fun D hD cs W hC => ownPt_any D cs W (by have := cntPts_mem hD; omega) hC)
end Go.Proofs.Ytfeghobfkgimfaa
