/- Own, walked. -/
import Derived.Test.YtfeghobfkgimfaaOwnC
namespace Go.Proofs.Ytfeghobfkgimfaa
open Go.RowKit Go.Shelf

section
variable {W W' : World} {B : Nat} {C : CodeD} {v1 v2 v1' v2' : Value} {k1 k2 : Nat} {row : Option Nat}

theorem TabO.grown {T : Option Addr} {c : Nat} {t : List (Int × Int)} (h : TabO W T c t) (hg : W.grownBy W' row) (hr : ∀ g cs, row = some g → ¬ Blk W g 46 cs) : TabO W' T c t :=
  ⟨h.1, fun h0 => by
    obtain ⟨g, cs, hT, hb, hc⟩ := h.2 h0
    exact ⟨g, cs, hT, hb.grown hg (fun e => hr g cs e.symm hb), hc⟩⟩

theorem own_row_ne {e e' : TypeId} {s s' n n' : Nat} {v v' : Value} {xs xs' : List Value} (h : W.ownsRow B e s v n xs) (h' : W.ownsRow B e' s' v' n' xs') (hne : e ≠ e') : v.ownBlock = none ∨ v.ownBlock ≠ v'.ownBlock := by
  rcases h.2 with ⟨rfl, _⟩ | ⟨g, c, cur, rfl, _, hb, _⟩
  · exact .inl rfl
  · right
    intro he
    exact own_blk_ne h' (show Blk W g e cur from hb) (Ne.symm hne) (by rw [← he]; rfl)

/-- Nothing of it is written to. -/
theorem CodeO.grown (h : CodeO W B C v1 v2 k1 k2) (hg : W.grownBy W' none) : CodeO W' B C v1 v2 k1 k2 := by
  obtain ⟨⟨S, o1⟩, f, o2, ht⟩ := h
  have hn : ∀ {v : Value}, v.ownBlock = none ∨ v.ownBlock ≠ none := fun {v} => by cases v.ownBlock <;> simp
  exact ⟨⟨S, o1.kept hg hn⟩, f, o2.kept hg hn, fun i hi => (ht i hi).grown hg (fun _ _ e => by cases e)⟩
/-- A global more. -/
theorem CodeO.moreG {S : Nat → ByteArray} {s : ByteArray} (o1 : W.ownsRow B 101 3 v1 k1 (rowsL (gRow C S) k1)) (h : CodeO W B C v1 v2 k1 k2) (hg : W.grownBy W' v1.ownBlock)
    (hown : W'.ownsRow B 101 3 v1' (k1 + 1) (rowsL (gRow C S) k1 ++ [.string s, .int .i64 (C.ar k1), .int .i64 (C.en k1)])) : CodeO W' B C v1' v2 (k1 + 1) k2 := by
  obtain ⟨_, f, o2, ht⟩ := h
  refine ⟨⟨fun i => if i = k1 then s else S i, ?_⟩, f, o2.kept hg (own_row_ne o2 o1 (by decide)), fun i hi => (ht i hi).grown hg (fun g cs e hb => own_blk_ne o1 hb (by decide) e)⟩
  rw [rowsL_succ, rowsL_congr (h := gRow C S) k1 (fun i hi => by simp [gRow]; omega)]
  simpa [gRow] using hown
/-- An instruction more. -/
theorem CodeO.moreI {f : Nat → Option Addr × Nat} {T : Option Addr} {c : Nat} (o2 : W.ownsRow B 32 4 v2 k2 (rowsL (iRow C f) k2)) (ht : ∀ i, i < k2 → TabO W (f i).1 (f i).2 (C.ins i).t) (hT : TabO W T c (C.ins k2).t) (o1 : ∃ S, W.ownsRow B 101 3 v1 k1 (rowsL (gRow C S) k1)) (hg : W.grownBy W' v2.ownBlock)
    (hown : W'.ownsRow B 32 4 v2' (k2 + 1) (rowsL (iRow C f) k2 ++ [.int .i64 (C.ins k2).op, .int .i64 (C.ins k2).a, .int .i64 (C.ins k2).b, .slice T (C.ins k2).t.length c])) : CodeO W' B C v1 v2' k1 (k2 + 1) := by
  obtain ⟨S, o1⟩ := o1
  have htab : ∀ g cs, v2.ownBlock = some g → ¬ Blk W g 46 cs := fun g cs e hb => own_blk_ne o2 hb (by decide) e
  refine ⟨⟨S, o1.kept hg (own_row_ne o1 o2 (by decide))⟩, fun i => if i = k2 then (T, c) else f i, ?_, fun i hi => ?_⟩
  · rw [rowsL_succ, rowsL_congr (h := iRow C f) k2 (fun i hi => by
      have : i ≠ k2 := by omega
      simp [iRow, this])]
    simpa [iRow] using hown
  · by_cases e : i = k2
    · subst e; simp only [if_true]; exact hT.grown hg htab
    · simp only [if_neg e]; exact (ht i (by omega)).grown hg htab
end

theorem blk_two (w : World) (o : Obj) (cs : Array Value) (t : TypeId) : ((w.alloc o).alloc (.cells cs t)).heap[w.heap.size + 1]? = some (.cells cs t (0, 0)) := by
  have h := heap_alloc_new (w.alloc o) (.cells cs t)
  simpa only [World.size_alloc] using h

theorem own_bel {W W' : World} {B : Nat} {e : TypeId} {sz n : Nat} {v : Value} {xs : List Value} (h : W.ownsRow B e sz v n xs) (hb : Below W.heap.size W W') : W'.ownsRow B e sz v n xs := by
  obtain ⟨h1, h2⟩ := h
  refine ⟨h1, ?_⟩
  rcases h2 with h2 | ⟨g, cap, cur, hv, hbb, hh, r⟩
  · exact .inl h2
  · exact .inr ⟨g, cap, cur, hv, hbb, (hb.block g (Array.getElem?_eq_some_iff.1 hh).1).trans hh, r⟩

theorem own_b3 {W W' : World} {g : Nat} {t : TypeId} {cs : Array Value} (h : Blk W g t cs) (hb : Below W.drew.heap.size W.drew W') : Blk W' g t cs := (h.drew).below hb h.lt

/-- The walk's state. -/
structure OcI (w : World) (C : CodeD) (cs : Array Value) (W : World) (v1 v2 : Value) (k1 k2 : Nat) : Prop where
  bl : Below w.heap.size w W
  bx : Blk W w.heap.size 39 cs
  b2 : Blk W (w.heap.size + 1) 29 #[.slice none 0 0, .slice none 0 0]
  b3 : Blk W (w.heap.size + 1 + 1) 29 #[v1, v2]
  co : CodeO W (w.heap.size + 3) C v1 v2 k1 k2
  sz : w.heap.size + 3 ≤ W.heap.size

theorem TabO.set {W : World} {T : Option Addr} {c b i : Nat} {t : List (Int × Int)} {e : TypeId} {cs : Array Value} (h : TabO W T c t) (hb : Blk W b e cs) (he : e ≠ 46) (u : Value) : TabO (W.setCell ⟨b, i, none⟩ u) T c t :=
  ⟨h.1, fun h0 => by
    obtain ⟨g, cs2, hT, hg, hc⟩ := h.2 h0
    exact ⟨g, cs2, hT, hg.far (Blk.ne_ hg hb (Ne.symm he)) u, hc⟩⟩
theorem CodeO.set {W : World} {B b i : Nat} {C : CodeD} {v1 v2 : Value} {k1 k2 : Nat} {e : TypeId} {cs : Array Value} (h : CodeO W B C v1 v2 k1 k2) (hb : Blk W b e cs) (he : e ≠ 46) (hB : b < B) (u : Value) : CodeO (W.setCell ⟨b, i, none⟩ u) B C v1 v2 k1 k2 := by
  obtain ⟨⟨S, o1⟩, f, o2, ht⟩ := h
  exact ⟨⟨S, own_set o1 hB u⟩, f, own_set o2 hB u, fun i hi => (ht i hi).set hb he u⟩

theorem OcI.moreG {w : World} {C : CodeD} {cs : Array Value} {wr w3 : World} {v1 v1' v2 : Value} {k k2 : Nat} {S : Nat → ByteArray} {s : ByteArray} {oa ob : Obj} (h : OcI w C cs wr v1 v2 k k2) (o1 : wr.ownsRow (w.heap.size + 3) 101 3 v1 k (rowsL (gRow C S) k))
    (hg : ((wr.alloc oa).alloc ob).grownBy w3 v1.ownBlock) (hown : w3.ownsRow (w.heap.size + 3) 101 3 v1' (k + 1) (rowsL (gRow C S) k ++ [.string s, .int .i64 (C.ar k), .int .i64 (C.en k)])) :
    OcI w C cs (w3.setCell ⟨w.heap.size + 1 + 1, 0, none⟩ v1') v1' v2 (k + 1) k2 := by
  have hsz := h.sz
  have hrow : ∀ j, v1.ownBlock = some j → w.heap.size + 3 ≤ j := fun j hj => (o1.lt j hj).1
  have n0 : some w.heap.size ≠ v1.ownBlock := fun e => by have := hrow _ e.symm; omega
  have n1 : some (w.heap.size + 1) ≠ v1.ownBlock := fun e => by have := hrow _ e.symm; omega
  have n2 : some (w.heap.size + 1 + 1) ≠ v1.ownBlock := fun e => by have := hrow _ e.symm; omega
  have b3 := ((h.b3.alloc oa).alloc ob).grown hg n2
  have co2 : CodeO ((wr.alloc oa).alloc ob) (w.heap.size + 3) C v1 v2 k k2 := (h.co.grown (World.grownBy_alloc _ oa none)).grown (World.grownBy_alloc _ ob none)
  refine ⟨?_, (((h.bx.alloc oa).alloc ob).grown hg n0).far (by omega) _, (((h.b2.alloc oa).alloc ob).grown hg n1).far (by omega) _, b3.set_ 0 v1', (CodeO.moreG ((o1.alloc oa).alloc ob) co2 hg hown).set b3 (by decide) (by omega) v1', ?_⟩
  · have hb : Below w.heap.size w ((wr.alloc oa).alloc ob) := (h.bl.alloc h.bl.size oa).alloc (by have := h.bl.size; simp; omega) ob
    exact below_set (hb.trans ((turns_of_grown hg).below hb.size (fun j hj => by have := hrow j hj.symm; omega))) (by omega) _
  · have := hg.size
    simp only [World.size_alloc] at this
    simp only [size_set]; omega

theorem TabO.below {W W' : World} {T : Option Addr} {c : Nat} {t : List (Int × Int)} (h : TabO W T c t) (hb : Below W.heap.size W W') : TabO W' T c t :=
  ⟨h.1, fun h0 => by
    obtain ⟨g, cs, hT, hg, hc⟩ := h.2 h0
    exact ⟨g, cs, hT, hg.below hb hg.lt, hc⟩⟩
theorem CodeO.below {W W' : World} {B : Nat} {C : CodeD} {v1 v2 : Value} {k1 k2 : Nat} (h : CodeO W B C v1 v2 k1 k2) (hb : Below W.heap.size W W') : CodeO W' B C v1 v2 k1 k2 := by
  obtain ⟨⟨S, o1⟩, f, o2, ht⟩ := h
  exact ⟨⟨S, own_bel o1 hb⟩, f, own_bel o2 hb, fun i hi => (ht i hi).below hb⟩
theorem OcI.moreI {w : World} {C : CodeD} {cs : Array Value} {wr w6 w3 : World} {v1 v2 v2' : Value} {k k2 c6 : Nat} {f : Nat → Option Addr × Nat} {T6 : Option Addr} {oa : Obj} (h : OcI w C cs wr v1 v2 k k2)
    (o2 : wr.ownsRow (w.heap.size + 3) 32 4 v2 k2 (rowsL (iRow C f) k2)) (htab : ∀ i, i < k2 → TabO wr (f i).1 (f i).2 (C.ins i).t) (hb6 : Below wr.drew.heap.size wr.drew w6) (hT : TabO w6 T6 c6 (C.ins k2).t)
    (hg : (w6.alloc oa).grownBy w3 v2.ownBlock) (hown : w3.ownsRow (w.heap.size + 3) 32 4 v2' (k2 + 1) (rowsL (iRow C f) k2 ++ [.int .i64 (C.ins k2).op, .int .i64 (C.ins k2).a, .int .i64 (C.ins k2).b, .slice T6 (C.ins k2).t.length c6])) :
    OcI w C cs (w3.setCell ⟨w.heap.size + 1 + 1, 1, none⟩ v2') v1 v2' k (k2 + 1) := by
  have hsz := h.sz
  have hb : Below wr.heap.size wr w6 := (Below.refl wr.heap.size wr).drew.trans hb6
  have hz6 : wr.heap.size ≤ w6.heap.size := hb.size
  have hrow : ∀ j, v2.ownBlock = some j → w.heap.size + 3 ≤ j := fun j hj => (o2.lt j hj).1
  have n0 : some w.heap.size ≠ v2.ownBlock := fun e => by have := hrow _ e.symm; omega
  have n1 : some (w.heap.size + 1) ≠ v2.ownBlock := fun e => by have := hrow _ e.symm; omega
  have n2 : some (w.heap.size + 1 + 1) ≠ v2.ownBlock := fun e => by have := hrow _ e.symm; omega
  have b3 := ((h.b3.below hb h.b3.lt).alloc oa).grown hg n2
  obtain ⟨S, o1⟩ := h.co.o1
  have ha := World.grownBy_alloc w6 oa none
  refine ⟨?_, (((h.bx.below hb h.bx.lt).alloc oa).grown hg n0).far (by omega) _, (((h.b2.below hb h.b2.lt).alloc oa).grown hg n1).far (by omega) _, b3.set_ 1 v2', (CodeO.moreI (own_bel (own_bel o2 hb) ((Below.refl _ _).alloc (Nat.le_refl _) oa)) (fun i hi => ((htab i hi).below hb).grown ha (fun _ _ e => by cases e)) (hT.grown ha (fun _ _ e => by cases e)) ⟨S, own_bel (own_bel o1 hb) ((Below.refl _ _).alloc (Nat.le_refl _) oa)⟩ hg hown).set b3 (by decide) (by omega) v2', ?_⟩
  · have hb2 : Below w.heap.size w (w6.alloc oa) := (h.bl.trans (hb.mono h.bl.size)).alloc (by have := h.bl.size; omega) oa
    exact below_set (hb2.trans ((turns_of_grown hg).below hb2.size (fun j hj => by have := hrow j hj.symm; omega))) (by omega) _
  · have := hg.size
    simp only [World.size_alloc] at this
    simp only [size_set]; omega

set_option maxRecDepth 100000 in
set_option maxHeartbeats 1000000 in
theorem ownC_any (C : CodeD) (G I : Option Addr) (gc ic : Nat) (w : World) (hC : CodeAt w C G gc I ic) (htl : ∀ i, i < C.ni → (C.ins i).t.length ≤ 1000000) (hni : C.ni ≤ 1000000) (hgl : C.gl ≤ 1000000) :
    Calls Try.prog 14 #[.agg #[.slice G C.gl gc, .slice I C.ni ic]] w fun e W =>
      ∃ G' gc' I' ic', e = .returned (.agg #[.slice G' C.gl gc', .slice I' C.ni ic']) ∧ Below w.heap.size w W ∧ CodeAt W C G' gc' I' ic' := by
  obtain ⟨gi0, hgi, hgz0, hgzs, hgzb⟩ := info_parts Try.info101
  obtain ⟨ii0, hii, hiz0, hizs, hizb⟩ := info_parts Try.info32
  go_enter Try.func14, Try.ntmps14
  go_wp2_with fail
  obtain ⟨W0, hW0⟩ : ∃ W0, ((w.alloc (.cells #[.slice G C.gl gc, .slice I C.ni ic] 39)).alloc (.cells #[.slice none 0 0, .slice none 0 0] 29)).alloc (.cells #[.slice none 0 0, .slice none 0 0] 29) = W0 := ⟨_, rfl⟩
  have hI0 : OcI w C #[.slice G C.gl gc, .slice I C.ni ic] W0 (.slice none 0 0) (.slice none 0 0) 0 0 := by
    rw [← hW0]
    have b2 := (Blk.new (w.alloc (.cells #[.slice G C.gl gc, .slice I C.ni ic] 39)) 29 #[.slice none 0 0, .slice none 0 0]).alloc (.cells #[.slice none 0 0, .slice none 0 0] 29)
    have b3 := Blk.new ((w.alloc (.cells #[.slice G C.gl gc, .slice I C.ni ic] 39)).alloc (.cells #[.slice none 0 0, .slice none 0 0] 29)) 29 #[.slice none 0 0, .slice none 0 0]
    simp only [World.size_alloc] at b2 b3
    exact ⟨below3 _ _ _, ((Blk.new _ _ _).alloc _).alloc _, b2, b3, ⟨⟨fun _ => { data := #[] }, ⟨by simp [rowsL], .inl ⟨rfl, rfl⟩⟩⟩, fun _ => (none, 0), ⟨by simp [rowsL], .inl ⟨rfl, rfl⟩⟩, fun i hi => by omega⟩, by simp⟩
  rw [hW0]
  have HI0 := Lib.hid hI0; have HC := Lib.hid hC; have HTL := Lib.hid htl
  obtain ⟨ni, hn⟩ : ∃ n, n = C.ni := ⟨_, rfl⟩
  obtain ⟨gl, hg⟩ : ∃ n, n = C.gl := ⟨_, rfl⟩
  rw [← hn] at hni HI0 ⊢; rw [← hg] at hgl HI0 ⊢
  have HN := Lib.hid hn; have HG := Lib.hid hg
  clear hW0 hI0 hC htl hn hg
  go_loopg [4] gl (fun gk i wr => ∃ (k : Nat) (v1 : Value), k ≤ gl ∧ gk = gl - k ∧ i = .int .i64 k ∧ Hid (OcI w C #[.slice G gl gc, .slice I ni ic] wr v1 (.slice none 0 0) k 0))
  case atStart => exact ⟨0, _, Nat.zero_le _, rfl, rfl, HI0⟩
  case round =>
    obtain ⟨k, v1, hk, rfl, rfl, HV⟩ := hrel
    have hI := HV.out
    have x0 : wr.cell? ⟨w.heap.size, 0, none⟩ = some (.slice G gl gc) := (hI.bx.cell 0).trans rfl
    have x1 : wr.cell? ⟨w.heap.size, 1, none⟩ = some (.slice I ni ic) := (hI.bx.cell 1).trans rfl
    obtain ⟨S, o1⟩ := hI.co.o1
    obtain ⟨A1, c1, rfl⟩ := own_slice o1
    have y0 : wr.cell? ⟨w.heap.size + 1 + 1, 0, none⟩ = some (.slice A1 k c1) := (hI.b3.cell 0).trans rfl
    have y1 : wr.cell? ⟨w.heap.size + 1 + 1, 1, none⟩ = some (.slice none 0 0) := (hI.b3.cell 1).trans rfl
    have fy0 := hI.b3.frozen 0
    have lz := hI.b3.lt
    have hsz := hI.sz
    by_cases hlt : k < gl
    · obtain ⟨g, o, rfl, hgw, hcs⟩ := HC.out.gs (by have := HG.out; omega)
      obtain ⟨s, e0, e1, e2⟩ := hcs k (by rw [← HG.out]; exact hlt)
      have g0 := (hI.bl.cell (p := ⟨g, o + k * 3, none⟩) hgw).trans e0
      have g1 := (hI.bl.cell (p := ⟨g, o + k * 3 + 1, none⟩) hgw).trans e1
      have g2 := (hI.bl.cell (p := ⟨g, o + k * 3 + 2, none⟩) hgw).trans e2
      obtain ⟨ar, har⟩ : ∃ a, a = C.ar k := ⟨_, rfl⟩
      obtain ⟨en, hen⟩ : ∃ a, a = C.en k := ⟨_, rfl⟩
      rw [← har] at g1; rw [← hen] at g2
      have HAR := Lib.hid har; have HEN := Lib.hid hen; have HO1 := Lib.hid o1
      have hk1 : (k : Int) < (gl : Int) := by omega
      clear hI o1 hcs e0 e1 e2 har hen
      go_wp2_with (at_builtin; refine wpList_append_lies _ rfl (.tmp 20) (.tmp 28) 27 rfl (w.heap.size + 3) 101 gi0 (.agg #[.string { data := #[] }, .int .i64 0, .int .i64 0]) 3 32 Try.underlying27 hgi hgz0 hgzs hgzb rfl (by decide) (.slice A1 k c1) k (rowsL (gRow C S) k) rfl ((HO1.out.alloc _).alloc _) ⟨wr.heap.size + 1, 0, none⟩ 1 1 [.string s, .int .i64 ar, .int .i64 en] rfl rfl (World.news_of_block (cs := #[.string s, .int .i64 ar, .int .i64 en]) (t := 101) (fr := (0, 0)) (blk_two _ _ _ _)) (by simp [Value.oneCell']) (by decide) (by unfold maxLen; omega) (by omega) (by simp; omega) (wr.heap.size + 1 + 1) (by simp) ?_; intro g3 cap3 w3 hown3 hgrow3 hat3 hglt3; have hb3 := ((HV.out.b3.alloc (.cells #[.string s, .int .i64 ar, .int .i64 en] 44)).alloc (.cells #[.string s, .int .i64 ar, .int .i64 en] 101)).grown hgrow3 (fun e => by have := (HO1.out.lt _ e.symm).1; omega); have z0 := hb3.cell 0; have z1 := hb3.cell 1; have f0 := hb3.frozen 0; simp at z0 z1; have HB3 := Lib.hid hb3; have HOW := Lib.hid hown3; have HGR := Lib.hid hgrow3; have HAT := Lib.hid hat3; clear hb3 hown3 hgrow3 hat3)
      go_roundg (gl - (k + 1))
      case measure => omega
      case rel =>
        exact ⟨k + 1, .slice (some ⟨g3, 0, none⟩) (k + 1) cap3, by omega, rfl, by go_num, Lib.hid (HV.out.moreG HO1.out HGR.out (by rw [← HAR.out, ← HEN.out]; exact HOW.out))⟩
    · obtain rfl : k = gl := by omega
      have HV0 : Hid (OcI w C #[.slice G k gc, .slice I ni ic] wr (.slice A1 k c1) (.slice none 0 0) k 0) := HV
      clear HV hI o1 x0 x1 y0 y1 fy0
      have q0 : wr.cell? ⟨w.heap.size, 0, none⟩ = some (.slice G k gc) := (HV0.out.bx.cell 0).trans rfl
      go_wp2_with fail
      obtain ⟨Wr, hWr⟩ : ∃ Wr, Wr = wr := ⟨_, rfl⟩
      rw [← hWr] at HV0 ⊢
      clear hWr q0
      go_loopg [6] ni (fun gk i wr => ∃ (k2 : Nat) (v2 : Value), k2 ≤ ni ∧ gk = ni - k2 ∧ i = .int .i64 k2 ∧ Hid (OcI w C #[.slice G k gc, .slice I ni ic] wr (.slice A1 k c1) v2 k k2))
      case atStart => exact ⟨0, _, Nat.zero_le _, rfl, rfl, HV0⟩
      case round =>
        obtain ⟨k2, v2, hk2, rfl, rfl, HV⟩ := hrel
        have hI := HV.out
        have x0 : wr.cell? ⟨w.heap.size, 0, none⟩ = some (.slice G k gc) := (hI.bx.cell 0).trans rfl
        have x1 : wr.cell? ⟨w.heap.size, 1, none⟩ = some (.slice I ni ic) := (hI.bx.cell 1).trans rfl
        obtain ⟨f, o2, htab⟩ := hI.co.o2
        obtain ⟨A2, c2, rfl⟩ := own_slice o2
        have y0 : wr.cell? ⟨w.heap.size + 1 + 1, 0, none⟩ = some (.slice A1 k c1) := (hI.b3.cell 0).trans rfl
        have y1 : wr.cell? ⟨w.heap.size + 1 + 1, 1, none⟩ = some (.slice A2 k2 c2) := (hI.b3.cell 1).trans rfl
        have fy1 := hI.b3.frozen 1
        have lz := hI.b3.lt
        have hsz := hI.sz
        by_cases hlt : k2 < ni
        · obtain ⟨g, o, rfl, hgw, hcs⟩ := HC.out.is (by have := HN.out; omega)
          obtain ⟨T, tc, e0, e1, e2, e3, ht⟩ := hcs k2 (by rw [← HN.out]; exact hlt)
          have hxl := HTL.out k2 (by rw [← HN.out]; exact hlt)
          obtain ⟨x, hx⟩ : ∃ x, x = C.ins k2 := ⟨_, rfl⟩
          rw [← hx] at e0 e1 e2 e3 ht hxl
          have HX := Lib.hid hx
          obtain ⟨op, a, b, t⟩ := x
          simp only at e0 e1 e2 e3 ht hxl
          have i0 := (hI.bl.cell (p := ⟨g, o + k2 * 4, none⟩) hgw).trans e0
          have i1 := (hI.bl.cell (p := ⟨g, o + k2 * 4 + 1, none⟩) hgw).trans e1
          have i2 := (hI.bl.cell (p := ⟨g, o + k2 * 4 + 2, none⟩) hgw).trans e2
          have i3 := (hI.bl.cell (p := ⟨g, o + k2 * 4 + 3, none⟩) hgw).trans e3
          have hO := ownI_any ⟨op, a, b, t⟩ T tc
          obtain ⟨X, hX⟩ : ∃ X, X = t.length := ⟨_, rfl⟩
          rw [← hX] at i3 hO
          have HOI := Lib.hid (fun W (hW : Below w.heap.size w W) => hO W (ht.below hW) (by rw [hX]; exact hxl))
          have HLX := Lib.hid hX
          have HO2 := Lib.hid o2; have HTB := Lib.hid htab
          have hk1 : (k2 : Int) < (ni : Int) := by omega
          have hwz := hI.bl.size
          have lg : g < wr.heap.size := Nat.lt_of_lt_of_le hgw hI.bl.size
          clear hI o2 htab hcs e0 e1 e2 e3 hx ht hxl hO hX
          go_wp2_with fail
          go_region_law (first | (go_simp; go_at_call 49; refine (HOI.out _ HV.out.bl.drew).mono ?_; rintro e w6 ⟨T6, c6, rfl, hb6, htb6, hc6⟩; have s0 := (hb6.cell (p := ⟨w.heap.size, 1, none⟩) (by simp; omega)).trans x1; have y16 := (hb6.cell (p := ⟨w.heap.size + 1 + 1, 1, none⟩) lz).trans y1; have l6 : wr.heap.size ≤ w6.heap.size := hb6.size; have lz6 : w.heap.size + 1 + 1 < w6.heap.size := Nat.lt_of_lt_of_le lz l6; have HB6 := Lib.hid hb6; have HTB6 := Lib.hid htb6; clear hb6 htb6) | (refine step_append_lies _ (by rfl) (.tmp 39) (.tmp 46) 26 (by rfl) (w.heap.size + 3) 32 ii0 (.agg #[.int .i64 0, .int .i64 0, .int .i64 0, .slice none 0 0]) 4 48 Try.underlying26 hii hiz0 hizs hizb rfl (by decide) (.slice A2 k2 c2) k2 (rowsL (iRow C f) k2) (by rfl) ((own_bel HO2.out.drew HB6.out).alloc _) ⟨w6.heap.size, 0, none⟩ 1 1 [.int .i64 op, .int .i64 a, .int .i64 b, .slice T6 t.length c6] (by rfl) (by rfl) (World.news_of_block (cs := #[.int .i64 op, .int .i64 a, .int .i64 b, .slice T6 t.length c6]) (t := 32) (fr := (0, 0)) (heap_alloc_new w6 _)) (by simp [Value.oneCell']) (by decide) (by unfold maxLen; omega) (by omega) (by simp; omega) (w6.heap.size + 1) (by simp) ?_; intro g3 cap3 w3 hown3 hgrow3 hat3 hglt3; have hb3 := ((own_b3 HV.out.b3 HB6.out).alloc (.cells #[.int .i64 op, .int .i64 a, .int .i64 b, .slice T6 t.length c6] 32)).grown hgrow3 (fun e => by have := (HO2.out.lt _ e.symm).1; omega); have z1 := hb3.cell 1; have zf := hb3.frozen 1; simp at z1; have HOW := Lib.hid hown3; have HGR := Lib.hid hgrow3; have HAT := Lib.hid hat3; clear hown3 hgrow3 hat3))
          all_goals
            go_wp2_with fail
            go_roundg (ni - (k2 + 1))
            case measure => omega
            case rel =>
              exact ⟨k2 + 1, .slice (some ⟨g3, 0, none⟩) (k2 + 1) cap3, by omega, rfl, by go_num, Lib.hid (HV.out.moreI HO2.out HTB.out HB6.out (by rw [← HX.out]; exact HTB6.out) HGR.out (by rw [← HX.out]; exact HOW.out))⟩
        · obtain rfl : k2 = ni := by omega
          have b20 : wr.cell? ⟨w.heap.size + 1, 0, none⟩ = some (.slice none 0 0) := (hI.b2.cell 0).trans rfl
          have b21 : wr.cell? ⟨w.heap.size + 1, 1, none⟩ = some (.slice none 0 0) := (hI.b2.cell 1).trans rfl
          have bf0 := hI.b2.frozen 0; have bf1 := hI.b2.frozen 1
          clear hI htab o2
          go_wp2_with fail
          have BF := (HV.out.b2.set_ 0 (.slice A1 k c1)).set_ 1 (.slice A2 k2 c2)
          have z0 := BF.cell 0; have z1 := BF.cell 1
          simp at z0 z1
          refine bodyPost_ret (v := .agg #[.slice A1 k c1, .slice A2 k2 c2]) (by simp [results, Try.results14, go_sem, z0, z1]) rfl ⟨A1, c1, A2, c2, by rw [HG.out, HN.out], below_set (below_set HV.out.bl (by omega) _) (by omega) _, ?_⟩
          have hco := ((HV.out.co.set HV.out.b2 (by decide) (by omega) (.slice A1 k c1) (i := 0)).set (HV.out.b2.set_ 0 (.slice A1 k c1)) (by decide) (by omega) (.slice A2 k2 c2) (i := 1))
          rw [HG.out, HN.out] at hco ⊢
          exact hco.at
end Go.Proofs.Ytfeghobfkgimfaa
