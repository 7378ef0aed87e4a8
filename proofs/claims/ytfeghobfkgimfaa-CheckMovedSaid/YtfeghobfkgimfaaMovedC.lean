/- CheckMoved: the code behind the code, as it is built in memory. -/
import Derived.Test.YtfeghobfkgimfaaLightW
import Derived.Test.YtfeghobfkgimfaaCopyA
import Derived.Test.YtfeghobfkgimfaaMovedP
namespace Go.Proofs.Ytfeghobfkgimfaa
open Go.RowKit Go.Shelf

theorem Try.info44 : (Try.prog.info? 44).map (fun i => (i.zero, i.size, i.bytes)) = some (some (.agg #[.string { data := #[] }, .int .i64 0, .int .i64 0]), 3, 32) := by kernel_rfl
theorem Try.info45 : (Try.prog.info? 45).map (fun i => (i.zero, i.size, i.bytes)) = some (some (.agg #[.int .i64 0, .int .i64 0, .int .i64 0, .slice none 0 0]), 4, 48) := by kernel_rfl

/-- A table in memory: in what came in, or in a block of pairs. -/
def TabR (W : World) (b0 : Nat) (T : Option Addr) (c : Nat) (t : List (Int × Int)) : Prop :=
  t.length ≤ c ∧ (0 < t.length → ∃ g o, T = some ⟨g, o, none⟩ ∧ g < W.heap.size ∧ (g < b0 ∨ ∃ cs, Blk W g 46 cs) ∧ ∀ i (h : i < t.length), W.cell? ⟨g, o + i * 2, none⟩ = some (.int .i64 t[i].1) ∧ W.cell? ⟨g, o + i * 2 + 1, none⟩ = some (.int .i64 t[i].2))
section
variable {W W' : World} {b0 B c : Nat} {T : Option Addr} {t : List (Int × Int)} {C : CodeD} {v1 v2 v1' v2' : Value} {k1 k2 : Nat}
theorem TabR.sl (h : TabR W b0 T c t) : TabSl W T c t := ⟨h.1, fun h0 => by
  obtain ⟨g, o, hT, hg, _, hc⟩ := h.2 h0
  exact ⟨g, o, hT, hg, hc⟩⟩
theorem TabR.of_sl (h : TabSl W T c t) (hb : W.heap.size ≤ b0) : TabR W b0 T c t := ⟨h.1, fun h0 => by
  obtain ⟨g, o, hT, hg, hc⟩ := h.2 h0
  exact ⟨g, o, hT, hg, .inl (by omega), hc⟩⟩
theorem TabR.keep (h : TabR W b0 T c t) (hz : W.heap.size ≤ W'.heap.size) (hb : ∀ k, k < W.heap.size → (k < b0 ∨ ∃ cs, Blk W k 46 cs) → W'.heap[k]? = W.heap[k]?) : TabR W' b0 T c t := ⟨h.1, fun h0 => by
  obtain ⟨g, o, hT, hg, hk, hc⟩ := h.2 h0
  have hh := hb g hg hk
  refine ⟨g, o, hT, by omega, ?_, fun i hi => ?_⟩
  · rcases hk with hk | ⟨cs, hk⟩
    · exact .inl hk
    · exact .inr ⟨cs, hh.trans hk⟩
  · rw [World.cell?_of_block (w := W) (a := ⟨g, o + i * 2, none⟩) hh, World.cell?_of_block (w := W) (a := ⟨g, o + i * 2 + 1, none⟩) hh]
    exact hc i hi⟩
theorem TabR.below (h : TabR W b0 T c t) (hb : Below W.heap.size W W') : TabR W' b0 T c t := h.keep hb.size (fun k hk _ => hb.block k hk)

/-- Code in memory: its rows in blocks of their own. -/
structure CodeR (W : World) (b0 B : Nat) (C : CodeD) (v1 v2 : Value) (k1 k2 : Nat) : Prop where
  o1 : ∃ S, W.ownsRow B 44 3 v1 k1 (rowsL (gRow C S) k1)
  o2 : ∃ f, W.ownsRow B 45 4 v2 k2 (rowsL (iRow C f) k2) ∧ ∀ i, i < k2 → TabR W b0 (f i).1 (f i).2 (C.ins i).t

theorem CodeR.below (h : CodeR W b0 B C v1 v2 k1 k2) (hb : Below W.heap.size W W') : CodeR W' b0 B C v1 v2 k1 k2 := by
  obtain ⟨⟨S, o1⟩, f, o2, ht⟩ := h
  exact ⟨⟨S, own_bel o1 hb⟩, f, own_bel o2 hb, fun i hi => (ht i hi).below hb⟩
/-- A store beside it. -/
theorem CodeR.set {b i : Nat} {e : TypeId} {cs : Array Value} (h : CodeR W b0 B C v1 v2 k1 k2) (hb : Blk W b e cs) (h44 : 44 ≠ e) (h45 : 45 ≠ e) (h46 : 46 ≠ e) (hB : b0 ≤ b) (u : Value) : CodeR (W.setCell ⟨b, i, none⟩ u) b0 B C v1 v2 k1 k2 := by
  obtain ⟨⟨S, o1⟩, f, o2, ht⟩ := h
  refine ⟨⟨S, own_blk o1 hb h44 u⟩, f, own_blk o2 hb h45 u, fun k hk => (ht k hk).keep (by simp [size_set]) (fun j hj hk => ?_)⟩
  refine Below.heap_setCell W ⟨b, i, none⟩ u j ?_
  rcases hk with hk | ⟨cs', hk⟩
  · show j ≠ b; omega
  · exact Blk.ne_ hk hb h46

/-- A global more. -/
theorem CodeR.moreG {S : Nat → ByteArray} {s : ByteArray} (o1 : W.ownsRow B 44 3 v1 k1 (rowsL (gRow C S) k1)) (h : CodeR W b0 B C v1 v2 k1 k2) (hb0 : b0 ≤ B) (hg : W.grownBy W' v1.ownBlock)
    (hown : W'.ownsRow B 44 3 v1' (k1 + 1) (rowsL (gRow C S) k1 ++ [.string s, .int .i64 (C.ar k1), .int .i64 (C.en k1)])) : CodeR W' b0 B C v1' v2 (k1 + 1) k2 := by
  obtain ⟨_, f, o2, ht⟩ := h
  refine ⟨⟨fun i => if i = k1 then s else S i, ?_⟩, f, o2.kept hg (own_row_ne o2 o1 (by decide)), fun i hi => (ht i hi).keep hg.size (fun k hk hkk => hg.block k hk (fun e => ?_))⟩
  · rw [rowsL_succ, rowsL_congr (h := gRow C S) k1 (fun i hi => by simp [gRow]; omega)]
    simpa [gRow] using hown
  · rcases hkk with hkk | ⟨cs, hkk⟩
    · have := (o1.lt k e.symm).1; omega
    · exact own_blk_ne o1 hkk (by decide) e.symm
/-- An instruction more. -/
theorem CodeR.moreI {f : Nat → Option Addr × Nat} (o2 : W.ownsRow B 45 4 v2 k2 (rowsL (iRow C f) k2)) (ht : ∀ i, i < k2 → TabR W b0 (f i).1 (f i).2 (C.ins i).t) (hT : TabR W b0 T c (C.ins k2).t) (o1 : ∃ S, W.ownsRow B 44 3 v1 k1 (rowsL (gRow C S) k1)) (hb0 : b0 ≤ B) (hg : W.grownBy W' v2.ownBlock)
    (hown : W'.ownsRow B 45 4 v2' (k2 + 1) (rowsL (iRow C f) k2 ++ [.int .i64 (C.ins k2).op, .int .i64 (C.ins k2).a, .int .i64 (C.ins k2).b, .slice T (C.ins k2).t.length c])) : CodeR W' b0 B C v1 v2' k1 (k2 + 1) := by
  obtain ⟨S, o1⟩ := o1
  have htab : ∀ k, k < W.heap.size → (k < b0 ∨ ∃ cs, Blk W k 46 cs) → W'.heap[k]? = W.heap[k]? := fun k hk hkk => hg.block k hk (fun e => by
    rcases hkk with hkk | ⟨cs, hkk⟩
    · have := (o2.lt k e.symm).1; omega
    · exact own_blk_ne o2 hkk (by decide) e.symm)
  refine ⟨⟨S, o1.kept hg (own_row_ne o1 o2 (by decide))⟩, fun i => if i = k2 then (T, c) else f i, ?_, fun i hi => ?_⟩
  · rw [rowsL_succ, rowsL_congr (h := iRow C f) k2 (fun i hi => by
      have : i ≠ k2 := by omega
      simp [iRow, this])]
    simpa [iRow] using hown
  · by_cases e : i = k2
    · subst e; simp only [if_true]; exact hT.keep hg.size htab
    · simp only [if_neg e]; exact (ht i (by omega)).keep hg.size htab
theorem CodeR.at {G I : Option Addr} {gc ic : Nat} (h : CodeR W b0 B C (.slice G C.gl gc) (.slice I C.ni ic) C.gl C.ni) : CodeAt W C G gc I ic := by
  obtain ⟨S, o1⟩ := h.o1
  obtain ⟨f, o2, ht⟩ := h.o2
  have cap : ∀ {e : TypeId} {sz n c : Nat} {A : Option Addr} {xs : List Value}, W.ownsRow B e sz (.slice A n c) n xs → n ≤ c := by
    intro e sz n c A xs ho
    rcases ho.2 with ⟨hv, h0⟩ | ⟨g', cp, cur, hv, _, _, hm, _⟩
    · omega
    · injection hv with _ _ e3; rw [e3]; exact hm
  refine ⟨cap o1, cap o2, fun h0 => ?_, fun h0 => ?_⟩
  · obtain ⟨g, c, hv, _, hl⟩ := o1.form h0
    injection hv with e1 _ _
    subst e1
    refine ⟨g, 0, rfl, hl, fun i hi => ⟨S i, ?_, ?_, ?_⟩⟩
    · rw [Nat.zero_add, o1.cellAt _ (by omega)]; exact (rowsL_get (m := 3) (g := gRow C S) (fun _ => rfl) C.gl i 0 hi (by decide)).trans rfl
    · rw [Nat.zero_add, o1.cellAt _ (by omega)]; exact (rowsL_get (m := 3) (g := gRow C S) (fun _ => rfl) C.gl i 1 hi (by decide)).trans rfl
    · rw [Nat.zero_add, o1.cellAt _ (by omega)]; exact (rowsL_get (m := 3) (g := gRow C S) (fun _ => rfl) C.gl i 2 hi (by decide)).trans rfl
  · obtain ⟨g, c, hv, _, hl⟩ := o2.form h0
    injection hv with e1 _ _
    subst e1
    refine ⟨g, 0, rfl, hl, fun i hi => ⟨(f i).1, (f i).2, ?_, ?_, ?_, ?_, (ht i hi).sl⟩⟩
    · rw [Nat.zero_add, o2.cellAt _ (by omega)]; exact (rowsL_get (m := 4) (g := iRow C f) (fun _ => rfl) C.ni i 0 hi (by decide)).trans rfl
    · rw [Nat.zero_add, o2.cellAt _ (by omega)]; exact (rowsL_get (m := 4) (g := iRow C f) (fun _ => rfl) C.ni i 1 hi (by decide)).trans rfl
    · rw [Nat.zero_add, o2.cellAt _ (by omega)]; exact (rowsL_get (m := 4) (g := iRow C f) (fun _ => rfl) C.ni i 2 hi (by decide)).trans rfl
    · rw [Nat.zero_add, o2.cellAt _ (by omega)]; exact (rowsL_get (m := 4) (g := iRow C f) (fun _ => rfl) C.ni i 3 hi (by decide)).trans rfl
end

/-- The first code's instructions are its own, whatever the depths. -/
theorem CodeR.reD {W : World} {b0 B : Nat} {A C : CodeD} {D D' : Nat → Int} {v1 v2 : Value} {k1 : Nat} (h : CodeR W b0 B (movC A C D) v1 v2 k1 A.ni) : CodeR W b0 B (movC A C D') v1 v2 k1 A.ni := by
  obtain ⟨⟨S, o1⟩, f, o2, ht⟩ := h
  have e : ∀ i, i < A.ni → (movC A C D).ins i = (movC A C D').ins i := fun i hi => by simp [movC, hi]
  refine ⟨⟨S, o1⟩, f, ?_, fun i hi => by rw [← e i hi]; exact ht i hi⟩
  rw [rowsL_congr (h := iRow (movC A C D) f) A.ni (fun i hi => by simp only [iRow]; rw [e i hi])]
  exact o2

/-- The state while the code is built. -/
structure MvI (w : World) (xa xb : Array Value) (C : CodeD) (W : World) (bc : Nat) (v1 v2 : Value) (k1 k2 : Nat) : Prop where
  bl : Below w.heap.size w W
  ba : Blk W w.heap.size 39 xa
  bb : Blk W (w.heap.size + 1) 39 xb
  bc_ : Blk W bc 39 #[v1, v2]
  co : CodeR W w.heap.size (w.heap.size + 2) C v1 v2 k1 k2
  lb : w.heap.size + 2 ≤ bc
theorem MvI.below {w W W' : World} {xa xb : Array Value} {C : CodeD} {bc : Nat} {v1 v2 : Value} {k1 k2 : Nat} (h : MvI w xa xb C W bc v1 v2 k1 k2) (hb : Below W.heap.size W W') : MvI w xa xb C W' bc v1 v2 k1 k2 :=
  ⟨h.bl.trans (hb.mono h.bl.size), h.ba.below hb h.ba.lt, h.bb.below hb h.bb.lt, h.bc_.below hb h.bc_.lt, h.co.below hb, h.lb⟩
theorem MvI.moreG {w W W' : World} {xa xb : Array Value} {C : CodeD} {bc : Nat} {v1 v2 v1' : Value} {k1 k2 : Nat} {S : Nat → ByteArray} {s : ByteArray} (h : MvI w xa xb C W bc v1 v2 k1 k2) (o1 : W.ownsRow (w.heap.size + 2) 44 3 v1 k1 (rowsL (gRow C S) k1))
    (hg : W.grownBy W' v1.ownBlock) (hown : W'.ownsRow (w.heap.size + 2) 44 3 v1' (k1 + 1) (rowsL (gRow C S) k1 ++ [.string s, .int .i64 (C.ar k1), .int .i64 (C.en k1)])) :
    MvI w xa xb C (W'.setCell ⟨bc, 0, none⟩ v1') bc v1' v2 (k1 + 1) k2 := by
  have hrow : ∀ j, v1.ownBlock = some j → w.heap.size + 2 ≤ j := fun j hj => (o1.lt j hj).1
  have n0 : some w.heap.size ≠ v1.ownBlock := fun e => by have := hrow _ e.symm; omega
  have n1 : some (w.heap.size + 1) ≠ v1.ownBlock := fun e => by have := hrow _ e.symm; omega
  have n2 : some bc ≠ v1.ownBlock := fun e => own_blk_ne o1 h.bc_ (by decide) e.symm
  have hlb := h.lb
  have b3 := h.bc_.grown hg n2
  refine ⟨?_, (h.ba.grown hg n0).far (by omega) _, (h.bb.grown hg n1).far (by omega) _, b3.set_ 0 v1', (CodeR.moreG o1 h.co (by omega) hg hown).set b3 (by decide) (by decide) (by decide) (by omega) v1', hlb⟩
  exact below_set (h.bl.trans ((turns_of_grown hg).below h.bl.size (fun j hj => by have := hrow j hj.symm; omega))) (by omega) _
theorem MvI.moreI {w W W' : World} {xa xb : Array Value} {C : CodeD} {bc c : Nat} {v1 v2 v2' : Value} {k1 k2 : Nat} {f : Nat → Option Addr × Nat} {T : Option Addr} (h : MvI w xa xb C W bc v1 v2 k1 k2)
    (o2 : W.ownsRow (w.heap.size + 2) 45 4 v2 k2 (rowsL (iRow C f) k2)) (ht : ∀ i, i < k2 → TabR W w.heap.size (f i).1 (f i).2 (C.ins i).t) (hT : TabR W w.heap.size T c (C.ins k2).t)
    (hg : W.grownBy W' v2.ownBlock) (hown : W'.ownsRow (w.heap.size + 2) 45 4 v2' (k2 + 1) (rowsL (iRow C f) k2 ++ [.int .i64 (C.ins k2).op, .int .i64 (C.ins k2).a, .int .i64 (C.ins k2).b, .slice T (C.ins k2).t.length c])) :
    MvI w xa xb C (W'.setCell ⟨bc, 1, none⟩ v2') bc v1 v2' k1 (k2 + 1) := by
  have hrow : ∀ j, v2.ownBlock = some j → w.heap.size + 2 ≤ j := fun j hj => (o2.lt j hj).1
  have n0 : some w.heap.size ≠ v2.ownBlock := fun e => by have := hrow _ e.symm; omega
  have n1 : some (w.heap.size + 1) ≠ v2.ownBlock := fun e => by have := hrow _ e.symm; omega
  have n2 : some bc ≠ v2.ownBlock := fun e => own_blk_ne o2 h.bc_ (by decide) e.symm
  have hlb := h.lb
  have b3 := h.bc_.grown hg n2
  refine ⟨?_, (h.ba.grown hg n0).far (by omega) _, (h.bb.grown hg n1).far (by omega) _, b3.set_ 1 v2', (CodeR.moreI o2 ht hT h.co.o1 (by omega) hg hown).set b3 (by decide) (by decide) (by decide) (by omega) v2', hlb⟩
  exact below_set (h.bl.trans ((turns_of_grown hg).below h.bl.size (fun j hj => by have := hrow j hj.symm; omega))) (by omega) _

theorem bk_new (w : World) (t : TypeId) (cs : Array Value) (n : Nat) (h : w.heap.size = n) : Blk (w.alloc (.cells cs t)) n t cs := by rw [← h]; exact Blk.new w t cs
theorem bk_alloc {w : World} {g : Nat} {t : TypeId} {cs : Array Value} (h : Blk w g t cs) (o : Obj) : Blk (w.alloc o) g t cs := h.alloc o
theorem bk_below {w w' : World} {g : Nat} {t : TypeId} {cs : Array Value} (h : Blk w g t cs) (hb : Below w.heap.size w w') : Blk w' g t cs := h.below hb h.lt
theorem bl_al {a w : World} (h : Below a.heap.size a w) (o : Obj) : Below a.heap.size a (w.alloc o) := h.alloc h.size o
theorem bl_tr {a w w' : World} (h : Below a.heap.size a w) (h2 : Below w.heap.size w w') : Below a.heap.size a w' := h.trans (h2.mono h.size)
theorem bl_st {a w : World} (h : Below a.heap.size a w) {b i : Nat} (hb : a.heap.size ≤ b) (u : Value) : Below a.heap.size a (w.setCell ⟨b, i, none⟩ u) := below_set h hb u

/-- What came in, as cells to be copied. -/
theorem CodeAt.newsG {w : World} {C : CodeD} {G I : Option Addr} {gc ic : Nat} (h : CodeAt w C G gc I ic) : ∃ S, ∀ W, Below w.heap.size w W → 0 < C.gl → ∃ a, G = some a ∧ ∀ j u, (rowsL (gRow C S) C.gl)[j]? = some u → W.cell? (a.add j) = some u := by
  haveI : Inhabited ByteArray := ⟨.empty⟩
  by_cases h0 : 0 < C.gl
  · obtain ⟨g, o, rfl, hg, hc⟩ := h.gs h0
    have hex : ∃ S : Nat → ByteArray, ∀ i, i < C.gl → w.cell? ⟨g, o + i * 3, none⟩ = some (.string (S i)) ∧ w.cell? ⟨g, o + i * 3 + 1, none⟩ = some (.int .i64 (C.ar i)) ∧ w.cell? ⟨g, o + i * 3 + 2, none⟩ = some (.int .i64 (C.en i)) := by
      classical
      refine ⟨fun i => if h' : i < C.gl then Classical.choose (hc i h') else default, fun i hi => ?_⟩
      simp only [dif_pos hi]
      exact Classical.choose_spec (hc i hi)
    obtain ⟨S, hS⟩ := hex
    refine ⟨S, fun W hb _ => ⟨_, rfl, fun j u hj => ?_⟩⟩
    have hlen := rowsL_length (g := gRow C S) (m := 3) (fun _ => rfl) C.gl
    have hjl : j < C.gl * 3 := by rw [← hlen]; exact (List.getElem?_eq_some_iff.1 hj).1
    obtain ⟨i, r, hr, rfl⟩ : ∃ i r, r < 3 ∧ j = i * 3 + r := ⟨j / 3, j % 3, by omega, by omega⟩
    have hi : i < C.gl := by omega
    rw [rowsL_get (m := 3) (fun _ => rfl) C.gl i r hi hr] at hj
    have hs := hS i hi
    rw [addP, hb.cell (p := ⟨g, o + (i * 3 + r), none⟩) hg]
    have : r = 0 ∨ r = 1 ∨ r = 2 := by omega
    rcases this with rfl | rfl | rfl
    · rw [← hj]; exact hs.1
    · rw [← hj]; exact hs.2.1
    · rw [← hj]; exact hs.2.2
  · exact ⟨fun _ => default, fun W _ h1 => absurd h1 h0⟩
theorem CodeAt.newsI {w : World} {C : CodeD} {G I : Option Addr} {gc ic : Nat} (h : CodeAt w C G gc I ic) : ∃ f : Nat → Option Addr × Nat, (∀ i, i < C.ni → TabSl w (f i).1 (f i).2 (C.ins i).t) ∧ ∀ W, Below w.heap.size w W → 0 < C.ni → ∃ a, I = some a ∧ ∀ j u, (rowsL (iRow C f) C.ni)[j]? = some u → W.cell? (a.add j) = some u := by
  by_cases h0 : 0 < C.ni
  · obtain ⟨g, o, rfl, hg, hc⟩ := h.is h0
    have hex : ∃ f : Nat → Option Addr × Nat, ∀ i, i < C.ni → w.cell? ⟨g, o + i * 4, none⟩ = some (.int .i64 (C.ins i).op) ∧ w.cell? ⟨g, o + i * 4 + 1, none⟩ = some (.int .i64 (C.ins i).a) ∧ w.cell? ⟨g, o + i * 4 + 2, none⟩ = some (.int .i64 (C.ins i).b) ∧ w.cell? ⟨g, o + i * 4 + 3, none⟩ = some (.slice (f i).1 (C.ins i).t.length (f i).2) ∧ TabSl w (f i).1 (f i).2 (C.ins i).t := by
      classical
      refine ⟨fun i => if h' : i < C.ni then (Classical.choose (hc i h'), Classical.choose (Classical.choose_spec (hc i h'))) else (none, 0), fun i hi => ?_⟩
      simp only [dif_pos hi]
      exact Classical.choose_spec (Classical.choose_spec (hc i hi))
    obtain ⟨f, hf⟩ := hex
    refine ⟨f, fun i hi => (hf i hi).2.2.2.2, fun W hb _ => ⟨_, rfl, fun j u hj => ?_⟩⟩
    have hlen := rowsL_length (g := iRow C f) (m := 4) (fun _ => rfl) C.ni
    have hjl : j < C.ni * 4 := by rw [← hlen]; exact (List.getElem?_eq_some_iff.1 hj).1
    obtain ⟨i, r, hr, rfl⟩ : ∃ i r, r < 4 ∧ j = i * 4 + r := ⟨j / 4, j % 4, by omega, by omega⟩
    have hi : i < C.ni := by omega
    rw [rowsL_get (m := 4) (fun _ => rfl) C.ni i r hi hr] at hj
    have hs := hf i hi
    rw [addP, hb.cell (p := ⟨g, o + (i * 4 + r), none⟩) hg]
    have : r = 0 ∨ r = 1 ∨ r = 2 ∨ r = 3 := by omega
    rcases this with rfl | rfl | rfl | rfl
    · rw [← hj]; exact hs.1
    · rw [← hj]; exact hs.2.1
    · rw [← hj]; exact hs.2.2.1
    · rw [← hj]; exact hs.2.2.2.1
  · exact ⟨fun _ => (none, 0), fun i hi => absurd hi (by omega), fun W _ h1 => absurd h1 h0⟩
theorem rowsG_one {C : CodeD} {S : Nat → ByteArray} {k : Nat} : ∀ u ∈ rowsL (gRow C S) k, u.oneCell' = true := by
  intro u hu
  obtain ⟨i, _, hi⟩ := List.mem_flatMap.1 hu
  simp [gRow] at hi
  rcases hi with rfl | rfl | rfl <;> rfl
theorem rowsI_one {C : CodeD} {f : Nat → Option Addr × Nat} {k : Nat} : ∀ u ∈ rowsL (iRow C f) k, u.oneCell' = true := by
  intro u hu
  obtain ⟨i, _, hi⟩ := List.mem_flatMap.1 hu
  simp [iRow] at hi
  rcases hi with rfl | rfl | rfl | rfl <;> rfl

/-- The state once the first code is copied. -/
theorem MvI.start {w W6 W : World} {xa xb : Array Value} {A B : CodeD} {D : Nat → Int} {bc : Nat} {v1 v2 : Value} {S : Nat → ByteArray} {f : Nat → Option Addr × Nat} {ag an : Nat} (hag : ag = A.gl) (han : an = A.ni)
    (h6 : Below w.heap.size w W6) (ba : Blk W6 w.heap.size 39 xa) (bb : Blk W6 (w.heap.size + 1) 39 xb) (hb : Below W6.heap.size W6 W)
    (o1 : W.ownsRow (w.heap.size + 2) 44 3 v1 ag (rowsL (gRow A S) ag)) (o2 : W.ownsRow (w.heap.size + 2) 45 4 v2 an (rowsL (iRow A f) an)) (ht : ∀ i, i < A.ni → TabSl w (f i).1 (f i).2 (A.ins i).t)
    (hbc : Blk W bc 39 #[v1, v2]) (hl : w.heap.size + 2 ≤ bc) : MvI w xa xb (movC A B D) W bc v1 v2 ag an := by
  subst hag han
  have hw := bl_tr h6 hb
  refine ⟨hw, bk_below ba hb, bk_below bb hb, hbc, ⟨⟨S, ?_⟩, f, ?_, fun i hi => ?_⟩, hl⟩
  · rw [rowsL_congr (h := gRow A S) A.gl (fun i hi => by simp [gRow, movC, hi])]; exact o1
  · rw [rowsL_congr (h := iRow A f) A.ni (fun i hi => by simp [iRow, movC, hi])]; exact o2
  · have e : (movC A B D).ins i = A.ins i := by simp [movC, hi]
    rw [e]
    exact (TabR.of_sl (ht i hi) (Nat.le_refl _)).below hw

/-- What a code that is sure of its depths is like. -/
theorem Least.ent {C : CodeD} {D : Nat → Int} (h : Closed C D) (g : Nat) (hg : g < C.gl) : 0 ≤ C.en g ∧ C.en g < C.ni := by
  have := h.ents _ (ent_left hg)
  exact ⟨this.1, this.2.1⟩
theorem right_a {x : InsD} (h : rightF x = true) (ho : x.op = 16 ∨ x.op = 1) : 0 ≤ x.a ∧ x.a ≤ 65536 := by
  obtain ⟨k1, k2, k3, k4, k5⟩ := rightF_true.1 h
  rcases ho with ho | ho
  · rw [ho] at k5
    simp [formD] at k5; omega
  · rw [ho] at k5
    simp [formD] at k5; omega
theorem right_t {x : InsD} (h : rightF x = true) : ∀ q ∈ x.t, 0 ≤ q.2 ∧ q.2 ≤ 65536 := by
  obtain ⟨k1, k2, k3, k4, k5⟩ := rightF_true.1 h
  intro q hq
  by_cases hn : 0 ≤ (formD x.op.toNat).nu
  · rw [k4 hn] at hq; cases hq
  · rw [if_pos (by omega)] at k5
    obtain ⟨i, hi, rfl⟩ := List.getElem_of_mem hq
    have := (k5.2.2.2 i hi).1
    simpa [List.getD_eq_getElem?_getD, List.getElem?_eq_getElem hi] using this
end Go.Proofs.Ytfeghobfkgimfaa
