/- take: what comes is taken, one by one. -/
import Derived.Test.YtfeghobfkgimfaaIter
import Derived.Test.YtfeghobfkgimfaaMeet
import Derived.Test.YtfeghobfkgimfaaRoundQ
import Derived.RegionIn
import Derived.BigRegionIn
import Derived.Outline
namespace Go.Proofs.Ytfeghobfkgimfaa
open Go.RowKit Go.Shelf
attribute [local go_sem] Oper.semAt_some

/-- The blocks of a walk. -/
def SwB (wb db : Nat) (rv0 : Value) (k : Nat) : Prop := k = wb ∨ k = db ∨ rv0.ownBlock = some k

/-- The walk's state in memory, between two rounds. -/
structure TkI (w : World) (B wb db n : Nat) (rv0 : Value) (W : World) (s : (Nat → Int) × List Nat) (rv : Value) : Prop where
  wk : Blk W wb 105 #[.slice (some ⟨db, 0, none⟩) n n, rv]
  dp : W.rowIs db 3 n (fun i => .int .i64 (s.1 i))
  ro : W.ownsRow B 3 1 rv s.2.length ((ints s.2).map (Value.int .i64))
  b2 : Blk W w.heap.size 103 #[.pointer (some ⟨wb, 0, none⟩)]
  b4 : ∃ z, Blk W (w.heap.size + 1) 3 #[.int .i64 z]
  b5 : ∃ q, Blk W (w.heap.size + 1 + 1) 4 #[.bool q]
  tu : Turns (SwB wb db rv0) w W
  ow : ∀ k, rv.ownBlock = some k → (rv0.ownBlock = some k ∧ k < w.heap.size) ∨ w.heap.size + 3 ≤ k

def TkP (w : World) (B wb db n : Nat) (rv0 : Value) (s0 : (Nat → Int) × List Nat) (pre : List ComD) (W : World) : Prop := ∃ s rv, tkAll n s0 pre = some s ∧ TkI w B wb db n rv0 W s rv
def TkX (w : World) (wb db n : Nat) (rv0 : Value) (s0 : (Nat → Int) × List Nat) (c : Code) (pre : List ComD) (W : World) : Prop :=
  c = .ret ∧ tkAll n s0 pre = none ∧ (∃ z, Blk W (w.heap.size + 1) 3 #[.int .i64 z]) ∧ Blk W (w.heap.size + 1 + 1) 4 #[.bool false] ∧ Turns (SwB wb db rv0) w W

theorem keep_cells {W W' : World} {row : Option Nat} (hg : W.grownBy W' row) (hr : ∀ r, row = some r → ∃ o : Obj, W.heap[r]? = some o ∧ o.isCells = false) {k : Nat} {c : Array Value} {t : TypeId} {f : Nat × Nat} (h : W.heap[k]? = some (.cells c t f)) : W'.heap[k]? = some (.cells c t f) := by
  rw [← h]
  refine hg.block k (Array.getElem?_eq_some_iff.1 h).1 (fun e => ?_)
  obtain ⟨o, ho, hc⟩ := hr k e.symm
  rw [h] at ho; injection ho with ho; subst ho
  simp [Obj.isCells] at hc

theorem TkI.grown {w : World} {B wb db n : Nat} {rv0 : Value} {W W' : World} {s : (Nat → Int) × List Nat} {rv : Value} (h : TkI w B wb db n rv0 W s rv) {row : Option Nat} (hg : W.grownBy W' row)
    (hr : ∀ r, row = some r → w.heap.size ≤ r ∧ ∃ o : Obj, W.heap[r]? = some o ∧ o.isCells = false) : TkI w B wb db n rv0 W' s rv := by
  have kc := fun {k c t f} => keep_cells (k := k) (c := c) (t := t) (f := f) hg (fun r e => (hr r e).2)
  refine ⟨kc h.wk, ?_, ?_, kc h.b2, ?_, ?_, ⟨hg.os.trans h.tu.os, hg.tape.trans h.tu.tape, hg.output.trans h.tu.output, Nat.le_trans h.tu.size hg.size, fun i hi hs => (hg.block i (Nat.lt_of_lt_of_le hi h.tu.size) (fun e => by have := (hr i e.symm).1; omega)).trans (h.tu.block i hi hs)⟩, h.ow⟩
  · obtain ⟨c, hc, h1, h2⟩ := h.dp
    exact ⟨c, kc hc, h1, h2⟩
  · obtain ⟨h1, h2⟩ := h.ro
    refine ⟨h1, ?_⟩
    rcases h2 with h2 | ⟨g, cap, cur, hv, hb, hh, r⟩
    · exact .inl h2
    · exact .inr ⟨g, cap, cur, hv, hb, kc hh, r⟩
  · obtain ⟨z, hz⟩ := h.b4; exact ⟨z, kc hz⟩
  · obtain ⟨z, hz⟩ := h.b5; exact ⟨z, kc hz⟩
theorem TkI.alloc {w : World} {B wb db n : Nat} {rv0 : Value} {W : World} {s : (Nat → Int) × List Nat} {rv : Value} (h : TkI w B wb db n rv0 W s rv) (o : Obj) : TkI w B wb db n rv0 (W.alloc o) s rv :=
  h.grown (World.grownBy_alloc W o none) (fun r e => by cases e)

theorem TkI.drewN {w : World} {B wb db n : Nat} {rv0 : Value} {W : World} {s : (Nat → Int) × List Nat} {rv : Value} (h : TkI w B wb db n rv0 W s rv) (k : Nat) : TkI w B wb db n rv0 (W.drewN k) s rv :=
  ⟨h.wk, h.dp, h.ro, h.b2, h.b4, h.b5, h.tu.drewN k, h.ow⟩
theorem keeps_drewN (B : Nat) (W : World) (k : Nat) : KeepsFrom B W (W.drewN k) := ⟨Nat.le_refl _, fun _ _ _ h _ => h⟩
theorem keepT_drewN (T : Nat) (S : Nat → Prop) (W : World) (k : Nat) : KeepT T S W (W.drewN k) := ⟨Nat.le_refl _, fun _ _ _ => rfl⟩

theorem TkI.ends {w : World} {B wb db n : Nat} {rv0 : Value} {W : World} {s : (Nat → Int) × List Nat} {rv : Value} (h : TkI w B wb db n rv0 W s rv) (hB : B ≤ w.heap.size) (hwb : wb < B) (hdb : db < B) (z : Int) (q : Bool) :
    TkI w B wb db n rv0 ((W.setCell ⟨w.heap.size + 1, 0, none⟩ (.int .i64 z)).setCell ⟨w.heap.size + 1 + 1, 0, none⟩ (.bool q)) s rv ∧
    Blk ((W.setCell ⟨w.heap.size + 1, 0, none⟩ (.int .i64 z)).setCell ⟨w.heap.size + 1 + 1, 0, none⟩ (.bool q)) (w.heap.size + 1) 3 #[.int .i64 z] ∧
    Blk ((W.setCell ⟨w.heap.size + 1, 0, none⟩ (.int .i64 z)).setCell ⟨w.heap.size + 1 + 1, 0, none⟩ (.bool q)) (w.heap.size + 1 + 1) 4 #[.bool q] := by
  obtain ⟨z4, b4⟩ := h.b4
  obtain ⟨q5, b5⟩ := h.b5
  have e4 : Blk ((W.setCell ⟨w.heap.size + 1, 0, none⟩ (.int .i64 z)).setCell ⟨w.heap.size + 1 + 1, 0, none⟩ (.bool q)) (w.heap.size + 1) 3 #[.int .i64 z] := (b4.set_ 0 (.int .i64 z)).far (by omega) _
  have e5 : Blk ((W.setCell ⟨w.heap.size + 1, 0, none⟩ (.int .i64 z)).setCell ⟨w.heap.size + 1 + 1, 0, none⟩ (.bool q)) (w.heap.size + 1 + 1) 4 #[.bool q] := (b5.far (by omega) _).set_ 0 (.bool q)
  have n4 : rv.ownBlock ≠ some (w.heap.size + 1) := fun e => by
    rcases h.ow _ e with e2 | e2 <;> omega
  have n5 : rv.ownBlock ≠ some (w.heap.size + 1 + 1) := fun e => by
    rcases h.ow _ e with e2 | e2 <;> omega
  refine ⟨⟨(h.wk.far (by omega) _).far (by omega) _, row_other (row_other h.dp (by omega) _) (by omega) _, own_far (own_far h.ro n4 _) n5 _, (h.b2.far (by omega) _).far (by omega) _, ⟨z, e4⟩, ⟨q, e5⟩, ?_, h.ow⟩, e4, e5⟩
  exact (h.tu.setNew (p := ⟨w.heap.size + 1, 0, none⟩) (by simp) _).setNew (p := ⟨w.heap.size + 1 + 1, 0, none⟩) (by simp; omega) _

/-- A round says 'no more'. -/
theorem tk_stop {w : World} {B wb db n : Nat} {rv0 : Value} {W : World} {s s0 : (Nat → Int) × List Nat} {rv : Value} (h : TkI w B wb db n rv0 W s rv) {pre : List ComD} {x : ComD} (hs : tkAll n s0 pre = some s) (ht : tk n s x = none) (B0 k : Nat) (z : Int) :
    KeepsFrom B0 W (((W.drewN k).setCell ⟨w.heap.size + 1, 0, none⟩ (.int .i64 z)).setCell ⟨w.heap.size + 1 + 1, 0, none⟩ (.bool false)) ∧
    TkX w wb db n rv0 s0 .ret (pre ++ [x]) (((W.drewN k).setCell ⟨w.heap.size + 1, 0, none⟩ (.int .i64 z)).setCell ⟨w.heap.size + 1 + 1, 0, none⟩ (.bool false)) := by
  obtain ⟨z4, b4⟩ := h.b4
  obtain ⟨q5, b5⟩ := h.b5
  refine ⟨(keeps_drewN B0 W k).trans (((KeepsOthers.setCell _ _ _).from _).trans ((KeepsOthers.setCell _ _ _).from _)), rfl, ?_, ⟨z, ?_⟩, ?_, ?_⟩
  · rw [tkAll_snoc, hs]; exact ht
  · exact ((b4.drewN k).set_ 0 (.int .i64 z)).far (by omega) _
  · exact ((b5.drewN k).far (by omega) _).set_ 0 (.bool false)
  · exact ((h.tu.drewN k).setNew (p := ⟨w.heap.size + 1, 0, none⟩) (by simp) _).setNew (p := ⟨w.heap.size + 1 + 1, 0, none⟩) (by simp; omega) _

/-- What was there has that depth. -/
theorem tk_same {w : World} {B wb db n : Nat} {rv0 : Value} {W : World} {s s0 : (Nat → Int) × List Nat} {rv : Value} (h : TkI w B wb db n rv0 W s rv) {pre : List ComD} {x : ComD} (hs : tkAll n s0 pre = some s) (ht : tk n s x = some s) (B0 T : Nat) (S : Nat → Prop) (k : Nat) :
    KeepsFrom B0 W (W.drewN k) ∧ KeepT T S W (W.drewN k) ∧ TkP w B wb db n rv0 s0 (pre ++ [x]) (W.drewN k) :=
  ⟨keeps_drewN _ _ _, keepT_drewN _ _ _ _, s, rv, by rw [tkAll_snoc, hs]; exact ht, h.drewN k⟩

/-- A place gets its depth, and stands in the row. -/
theorem tk_new {w : World} {B wb db n q : Nat} {d : Int} {rv0 : Value} {W W2 w3 : World} {s s0 : (Nat → Int) × List Nat} {rv : Value} (h : TkI w B wb db n rv0 W s rv) {pre : List ComD} {x : ComD} (hs : tkAll n s0 pre = some s) (ht : tk n s x = some (updD s.1 q d, s.2 ++ [q]))
    (hB : B ≤ w.heap.size) (hwb : wb < B) (hdb : db < B) (k : Nat) {o : Obj} (hW2 : W2 = (((W.drewN k).drew.setCell ⟨db, q, none⟩ (.int .i64 d)).alloc o).drew) {g cap : Nat} (hown : w3.ownsRow B 3 1 (.slice (some ⟨g, 0, none⟩) (s.2.length + 1) cap) (s.2.length + 1) ((ints s.2).map (Value.int .i64) ++ [.int .i64 (q : Int)]))
    (hgrow : W2.grownBy w3 rv.ownBlock) (hat : rv.ownBlock = some g ∨ g = W2.heap.size) (B0 : Nat) (hB0 : w.heap.size ≤ B0) :
    KeepsFrom B0 W (w3.setCell ⟨wb, 1, none⟩ (.slice (some ⟨g, 0, none⟩) (s.2.length + 1) cap)) ∧ KeepT w.heap.size (SwB wb db rv0) W (w3.setCell ⟨wb, 1, none⟩ (.slice (some ⟨g, 0, none⟩) (s.2.length + 1) cap)) ∧
    TkP w B wb db n rv0 s0 (pre ++ [x]) (w3.setCell ⟨wb, 1, none⟩ (.slice (some ⟨g, 0, none⟩) (s.2.length + 1) cap)) := by
  have hrow : ∀ j, rv.ownBlock = some j → B ≤ j ∧ j < W.heap.size := h.ro.lt
  have hsz := h.tu.size
  have ld := h.dp.lt; have lw := h.wk.lt
  have hz2 : W2.heap.size = W.heap.size + 1 := by rw [hW2]; simp [World.setCell, World.drewN, World.drew]
  -- what lies in W2
  have wk2 : Blk W2 wb 105 #[.slice (some ⟨db, 0, none⟩) n n, rv] := by rw [hW2]; exact ((((h.wk.drewN k).drew).far (Blk.row_ne h.wk h.dp (by decide)) _).alloc _).drew
  have dp2 : W2.rowIs db 3 n (fun i => .int .i64 (updD s.1 q d i)) := by
    rw [hW2]
    have h1 := (row_set (h.dp) q (.int .i64 d))
    have e : (fun i => Value.int .i64 (updD s.1 q d i)) = upd (fun i => .int .i64 (s.1 i)) q (.int .i64 d) := by funext i; simp only [updD, upd]; split <;> rfl
    rw [e]
    exact row_drew (row_alloc (row_set (row_drew (rowIs_drewN h.dp k)) q (.int .i64 d)) o)
  obtain ⟨z4, b4⟩ := h.b4
  obtain ⟨q5, b5⟩ := h.b5
  have hdb4 : w.heap.size + 1 ≠ db := by omega
  have b22 : Blk W2 w.heap.size 103 #[.pointer (some ⟨wb, 0, none⟩)] := by rw [hW2]; exact ((((h.b2.drewN k).drew).far (by omega) _).alloc _).drew
  have b42 : Blk W2 (w.heap.size + 1) 3 #[.int .i64 z4] := by rw [hW2]; exact ((((b4.drewN k).drew).far (by omega) _).alloc _).drew
  have b52 : Blk W2 (w.heap.size + 1 + 1) 4 #[.bool q5] := by rw [hW2]; exact ((((b5.drewN k).drew).far (by omega) _).alloc _).drew
  have tu2 : Turns (SwB wb db rv0) w W2 := by rw [hW2]; exact (((((h.tu.drewN k).drew).setCell (p := ⟨db, q, none⟩) (.inr (.inl rfl)) _)).alloc _).drew
  have hnew : ∀ j, rv.ownBlock = some j → (rv0.ownBlock = some j ∧ j < w.heap.size) ∨ w.heap.size + 3 ≤ j := h.ow
  have l5 := b5.lt
  have ne_row : ∀ {j : Nat}, j < W.heap.size → (rv.ownBlock ≠ some j) → some j ≠ rv.ownBlock := fun _ h e => h e.symm
  have nwb : rv.ownBlock ≠ some wb := fun e => by have := (hrow _ e).1; omega
  have ndb : rv.ownBlock ≠ some db := fun e => by have := (hrow _ e).1; omega
  have n2 : rv.ownBlock ≠ some w.heap.size := own_blk_ne h.ro h.b2 (by decide)
  have n5 : rv.ownBlock ≠ some (w.heap.size + 1 + 1) := own_blk_ne h.ro b5 (by decide)
  have n4 : rv.ownBlock ≠ some (w.heap.size + 1) := fun e => by
    rcases hnew _ e with e2 | e2
    · omega
    · omega
  have wk3 := wk2.grown hgrow (fun e => nwb e.symm)
  have ht3 := turns_of_grown hgrow
  have dp3 : w3.rowIs db 3 n (fun i => .int .i64 (updD s.1 q d i)) := ht3.row dp2 (fun e => ndb e.symm)
  have b23 := b22.grown hgrow (fun e => n2 e.symm)
  have b43 := b42.grown hgrow (fun e => n4 e.symm)
  have b53 := b52.grown hgrow (fun e => n5 e.symm)
  have hnwd : wb ≠ db := Blk.row_ne h.wk h.dp (by decide)
  have hkeep : ∀ j ob, B0 ≤ j → W.heap[j]? = some ob → ob.isCells = false → w3.heap[j]? = some ob := fun j ob hj ho hc => by
    have hjl : j < W.heap.size := (Array.getElem?_eq_some_iff.1 ho).1
    have e1 : W2.heap[j]? = some ob := by
      rw [hW2]
      have hjd : j ≠ db := by omega
      show ((((W.drewN k).drew.setCell ⟨db, q, none⟩ (.int .i64 d)).alloc o).drew).heap[j]? = some ob
      rw [show ((((W.drewN k).drew.setCell ⟨db, q, none⟩ (.int .i64 d)).alloc o).drew).heap[j]? = (((W.drewN k).drew.setCell ⟨db, q, none⟩ (.int .i64 d)).alloc o).heap[j]? from rfl, Below.heap_alloc _ _ _ (by simpa [World.setCell] using hjl), Below.heap_setCell _ _ _ _ hjd]
      exact ho
    rw [← e1]
    refine hgrow.block j (by omega) (fun e => ?_)
    rcases h.ro.2 with ⟨hv, _⟩ | ⟨g', c', cur, hv, _, hh, _⟩
    · rw [hv] at e; simp [Value.ownBlock] at e
    · rw [hv] at e
      have : j = g' := by simpa [Value.ownBlock] using e
      rw [← this, ho] at hh
      injection hh with hh; subst hh; simp [Obj.isCells] at hc
  have tu3 : Turns (SwB wb db rv0) w w3 := ⟨hgrow.os.trans tu2.os, hgrow.tape.trans tu2.tape, hgrow.output.trans tu2.output, Nat.le_trans tu2.size hgrow.size, fun i hi hs => (hgrow.block i (by have := tu2.size; omega) (fun e => by
    rcases hnew i e.symm with e2 | e2
    · exact hs (.inr (.inr e2.1))
    · omega)).trans (tu2.block i hi hs)⟩
  refine ⟨⟨?_, ?_⟩, ⟨?_, ?_⟩, (updD s.1 q d, s.2 ++ [q]), .slice (some ⟨g, 0, none⟩) (s.2.length + 1) cap, by rw [tkAll_snoc, hs]; exact ht, ?_⟩
  · have := hgrow.size; simp only [size_set]; omega
  · intro j ob hj ho hc
    have h3 := hkeep j ob hj ho hc
    rw [Below.heap_setCell _ _ _ _ (by show j ≠ wb; omega)]; exact h3
  · have := hgrow.size; simp only [size_set]; omega
  · intro j hj hS
    rw [Below.heap_setCell _ _ _ _ (fun e => hS (.inl e))]
    rw [tu3.block j hj hS, ← h.tu.block j hj hS]
  · refine ⟨?_, row_other dp3 (fun e => hnwd e.symm) _, ?_, b23.far (by omega) _, ⟨z4, b43.far (by omega) _⟩, ⟨q5, b53.far (by omega) _⟩, tu3.setCell (p := ⟨wb, 1, none⟩) (.inl rfl) _, fun j hj => ?_⟩
    · exact wk3.set_ 1 _
    · have h1 : w3.ownsRow B 3 1 (.slice (some ⟨g, 0, none⟩) (s.2.length + 1) cap) (s.2 ++ [q]).length ((ints (s.2 ++ [q])).map (Value.int .i64)) := by rw [List.length_append]; simpa [ints] using hown
      exact own_set h1 hwb _
    · have : g = j := by simpa [Value.ownBlock] using hj
      subst this
      rcases hat with e | e
      · exact hnew _ e
      · right; omega

theorem tk_len {n : Nat} : ∀ {cs : List ComD} {s s' : (Nat → Int) × List Nat}, tkAll n s cs = some s' → s'.2.length ≤ s.2.length + cs.length := by
  intro cs
  induction cs with
  | nil => intro s s' h; simp only [tkAll] at h; injection h with h; subst h; simp
  | cons c cs ih =>
    intro s s' h
    simp only [tkAll] at h
    cases h1 : tk n s c with
    | none => rw [h1] at h; cases h
    | some s1 =>
      rw [h1] at h
      have h2 := ih (s := s1) h
      have h3 : s1.2.length ≤ s.2.length + 1 := by
        unfold tk at h1
        split at h1
        · split at h1
          · injection h1 with h1; subst h1; simp
          · split at h1
            · injection h1 with h1; subst h1; omega
            · cases h1
        · cases h1
      simp; omega

/-- take's answer. -/
def TakeV (w : World) (B wb db n : Nat) (rv0 : Value) (s0 : (Nat → Int) × List Nat) (xs : List ComD) (e : Ending) (W : World) : Prop :=
  (∃ s rv, e = .returned (.tuple #[.int .i64 0, .bool true]) ∧ tkAll n s0 xs = some s ∧ TkI w B wb db n rv0 W s rv) ∨
  (∃ z, e = .returned (.tuple #[.int .i64 z, .bool false]) ∧ tkAll n s0 xs = none ∧ Turns (SwB wb db rv0) w W)

set_option maxRecDepth 100000 in
set_option maxHeartbeats 4000000 in
theorem take_any (w : World) (B wb db n gf : Nat) (lb : Array Value) (rv0 : Value) (s0 : (Nat → Int) × List Nat) (xs : List ComD) (hn : n ≤ 100000) (hB : B ≤ w.heap.size) (hwb : wb < B) (hdb : db < B) (hrl : s0.2.length + xs.length ≤ 1000000000)
    (eg : ∀ args w, (callFunc gf args).run Try.prog w = .ok (.enter gf args) w)
    (hseq : SeqStopsK Fence.wide 9 Try.prog gf lb encC (KeepT w.heap.size (SwB wb db rv0)) (fun ys => ys = xs) (fun pre => pre <+: xs) xs.length w)
    (wk : Blk w wb 105 #[.slice (some ⟨db, 0, none⟩) n n, rv0]) (dp : w.rowIs db 3 n (fun i => .int .i64 (s0.1 i))) (ro : w.ownsRow B 3 1 rv0 s0.2.length ((ints s0.2).map (Value.int .i64))) :
    Calls Try.prog 43 #[.pointer (some ⟨wb, 0, none⟩), .func (.func gf) #[] lb] w (TakeV w B wb db n rv0 s0 xs) := by
  obtain ⟨i0, hi0, hz0, hzs, hzb⟩ := info_parts Try.info3
  refine (callsIn_wide (n := 10)).1 ?_
  refine callsIn_of_wp_marks Try.func43 rfl trivial ?_ rfl
  simp only [Try.ntmps43, List.size_toArray, List.length_cons, List.length_nil, Nat.reduceAdd, Nat.reduceSub, Array.replicate_succ, Array.replicate_zero, List.push_toArray, List.append_toArray, List.nil_append, List.cons_append]
  gi_wp2
  obtain ⟨W0, hW0⟩ : ∃ W0, ((w.alloc (.cells #[.pointer (some ⟨wb, 0, none⟩)] 103)).alloc (.cells #[.int .i64 0] 3)).alloc (.cells #[.bool false] 4) = W0 := ⟨_, rfl⟩
  have hb0 : Below w.heap.size w W0 := by rw [← hW0]; exact below3 _ _ _
  have hz0' : W0.heap.size = w.heap.size + 3 := by rw [← hW0]; simp
  have hI0 : TkI w B wb db n rv0 W0 s0 rv0 := by
    rw [← hW0]
    have b4 := (Blk.new (w.alloc (.cells #[.pointer (some ⟨wb, 0, none⟩)] 103)) 3 #[.int .i64 0]).alloc (.cells #[.bool false] 4)
    have b5 := Blk.new ((w.alloc (.cells #[.pointer (some ⟨wb, 0, none⟩)] 103)).alloc (.cells #[.int .i64 0] 3)) 4 #[.bool false]
    simp only [World.size_alloc] at b4 b5
    refine ⟨((wk.alloc _).alloc _).alloc _, ((dp.alloc _).alloc _).alloc _, ((ro.alloc _).alloc _).alloc _, ((Blk.new _ _ _).alloc _).alloc _, ⟨_, b4⟩, ⟨_, b5⟩, (((Turns.refl _ _).alloc _).alloc _).alloc _, fun k hk => .inl ⟨hk, (ro.lt k hk).2⟩⟩
  have HI0 := Lib.hid hI0; have HWK := Lib.hid wk; have HDP := Lib.hid dp; have HRO := Lib.hid ro
  rw [hW0]
  clear hW0 hI0 wk dp ro
  refine wpIn_rangeFunc_ownH rfl (by decide) (gf := gf) (lb := lb) rfl trivial eg hseq keepT_t (keepT_b hb0.size) hb0 (fun _ => rfl)
    (fun pre W => TkP w B wb db n rv0 s0 pre W) (fun c pre W => TkX w wb db n rv0 s0 c pre W)
    (fun pre W W' row h hg hr => by
      obtain ⟨s, rv, h1, h2⟩ := h
      exact ⟨s, rv, h1, h2.grown hg (fun r e => ⟨by have := (hr r e).1; omega, (hr r e).2⟩)⟩)
    (fun c pre W W' row h hg hr => by
      obtain ⟨h0, h1, ⟨z, h2⟩, h3, h4⟩ := h
      have kc := fun {k c t f} => keep_cells (k := k) (c := c) (t := t) (f := f) hg (fun r e => (hr r e).2)
      exact ⟨h0, h1, ⟨z, kc h2⟩, kc h3, ⟨hg.os.trans h4.os, hg.tape.trans h4.tape, hg.output.trans h4.output, Nat.le_trans h4.size hg.size, fun i hi hs => (hg.block i (Nat.lt_of_lt_of_le hi h4.size) (fun e => by have := (hr i e.symm).1; omega)).trans (h4.block i hi hs)⟩⟩)
    ⟨s0, rv0, rfl, HI0.out⟩
    (fun x a' W => ∃ Bx, w.heap.size + 3 ≤ Bx ∧ Blk W Bx 146 #[.int .i64 x.p, .int .i64 x.d, .int .i64 x.o] ∧ a' = { tmps := #[.pointer (some ⟨wb, 0, none⟩), .func (.func gf) #[] lb, .pointer (some ⟨w.heap.size, 0, none⟩), undef, .pointer (some ⟨w.heap.size + 1, 0, none⟩), .pointer (some ⟨w.heap.size + 1 + 1, 0, none⟩), .pointer (some ⟨Bx, 0, none⟩), .func (.func gf) #[] lb, .agg #[.int .i64 x.p, .int .i64 x.d, .int .i64 x.o], undef, undef, undef, undef, undef, undef, undef, undef, undef, undef, undef, undef, undef, undef, undef, undef, undef, undef, undef, undef, undef, undef, undef, undef, undef, undef, undef, undef, undef, undef, undef, undef, undef, undef, undef, undef, undef, undef, undef, undef, undef, undef, undef, undef, undef, undef, undef, undef, undef, undef, undef, undef, undef, undef, undef, undef, undef, undef, undef, undef], defers := [] })
    (fun x a' _ W W' row h hg hr => by
      obtain ⟨Bx, h1, h2, h3⟩ := h
      exact ⟨Bx, h1, keep_cells hg (fun r e => (hr r e).2) h2, h3⟩)
    ?assign ?body ?done ?stop
  case assign =>
    rintro l pre x W K ⟨s, rv, hs, hI⟩ hK
    have HI := Lib.hid hI
    have hzW := hI.tu.size
    have hzL := hI.b5.choose_spec.lt
    clear hI
    dsimp only [encC]
    gi_wp2
    exact hK _ _ ((KeepsOthers.alloc _ _).from _) ⟨by simp, fun k hk _ => Below.heap_alloc W _ k (by omega)⟩ ⟨s, rv, hs, HI.out.alloc _⟩ ⟨W.heap.size, by omega, Blk.new W 146 _, rfl⟩
  case body =>
    rintro l pre x a' W hl ⟨r, hr⟩ ⟨s, rv, hs, hI⟩ ⟨Bx, hBx, bX, rfl⟩ hlen
    obtain ⟨D, row⟩ := s
    obtain ⟨p, d, o⟩ := x
    have hzW := hI.tu.size
    have x0 := bX.cell 0; have x1 := bX.cell 1; have x2 := bX.cell 2
    have y0 := hI.b2.cell 0
    have k0 := hI.wk.cell 0; have k1 := hI.wk.cell 1
    have f0 := hI.wk.frozen 0; have f1 := hI.wk.frozen 1
    simp at x0 x1 x2 y0 k0 k1
    obtain ⟨z4, b4⟩ := hI.b4
    obtain ⟨q5, b5⟩ := hI.b5
    have c4 := b4.cell 0; have g4 := b4.frozen 0; have c5 := b5.cell 0; have g5 := b5.frozen 0
    simp at c4 c5
    have HI := Lib.hid hI; have HBX := Lib.hid bX; have HB4 := Lib.hid b4; have HB5 := Lib.hid b5; have HS := Lib.hid hs
    have l4 := b4.lt; have l5 := b5.lt; have lX := bX.lt; have lw := hI.wk.lt; have ld := hI.dp.lt
    have hdp := hI.dp
    clear hI bX b4 b5 hs
    by_cases hp0 : 0 ≤ p
    · obtain ⟨q, rfl⟩ : ∃ q : Nat, p = q := ⟨p.toNat, by omega⟩
      have hp1 : decide ((q : Int) < 0) = false := by simp
      have hp2 : ¬ (q : Int) < 0 := by omega
      by_cases hqn : q < n
      · have hq1 : decide ((n : Int) ≤ (q : Int)) = false := by simp; omega
        have hq1n : decide (n ≤ q) = false := by simp; omega
        have hq2 : (q : Int) < (n : Int) := by omega
        have d0 := hdp.cell hqn
        by_cases hD : D q = 0
        · have hDb : (D q == 0) = true := by simp [hD]
          have ht : tk n (D, row) ⟨q, d, o⟩ = some (updD D q d, row ++ [q]) := by unfold tk; rw [if_pos ⟨hp0, hq2⟩]; simp [hD]
          have HT := Lib.hid ht
          have hrow : W.ownsRow B 3 1 rv row.length ((ints row).map (Value.int .i64)) := HI.out.ro
          have hrl1 := tk_len HS.out
          have fd := HI.out.dp.frozen q
          have hq0 : (0 : Int) ≤ (q : Int) := Int.natCast_nonneg _
          clear ht hdp hp0 hD
          gi_wp2
          refine quiet_round l (by kernel_rfl) (by kernel_rfl) (by kernel_rfl) ?_
          repeat (gi_big_quiet_step (fail))
          refine wpQuietIn_nil ?_
          intro _ hw'
          obtain ⟨n1, hw''⟩ := hw'
          subst hw''
          gi_wp2
          refine quiet_round l (by kernel_rfl) (by kernel_rfl) (by kernel_rfl) ?_
          repeat (gi_big_quiet_step (fail))
          refine wpQuietIn_nil ?_
          intro _ hw'
          obtain ⟨n2, hw''⟩ := hw'
          subst hw''
          gi_wp2
          rw [World.drewN_drewN]
          obtain ⟨k1n, hk1n⟩ : ∃ k, k = n1 + n2 := ⟨_, rfl⟩
          rw [← hk1n]
          obtain ⟨W1, hW1⟩ : ∃ W1, W1 = W.drewN k1n := ⟨_, rfl⟩
          rw [← hW1]
          have hx1 : Blk W1 Bx 146 #[.int .i64 (q : Int), .int .i64 d, .int .i64 o] := by rw [hW1]; exact HBX.out.drewN _
          have hi1 : TkI w B wb db n rv0 W1 (D, row) rv := by rw [hW1]; exact HI.out.drewN _
          clear x0 x1 x2 y0 k0 k1 f0 f1 c4 g4 c5 g5 d0 fd hDb
          have x0 := hx1.cell 0; have x1 := hx1.cell 1
          have y0 := hi1.b2.cell 0
          have k0 := hi1.wk.cell 0
          have d0 := hi1.dp.cell hqn
          have fd := hi1.dp.frozen q
          simp at x0 x1 y0 k0
          have HI1 := Lib.hid hi1; have HX1 := Lib.hid hx1; have HW1 := Lib.hid hW1
          have HQN := Lib.hid hqn
          clear hi1 hx1 hW1 hqn hk1n
          refine tail_round l 9 (by kernel_rfl) (by kernel_rfl) (by kernel_rfl) (by rintro ⟨a, w, h⟩; exact h) ?_
          simp only [List.take_succ_cons, List.take_zero, List.drop_succ_cons, List.drop_zero]
          repeat still_step
          refine wpStill_nil ?_
          change wpList _ _ _ _ _ (World.drew _)
          go_wp2_with fail
          gi_wp2
          obtain ⟨W2, hW2⟩ : ∃ W2, W2 = (W1.setCell ⟨db, q, none⟩ (.int .i64 d)).drew := ⟨_, rfl⟩
          rw [← hW2]
          have hbd : Bx ≠ db := by omega
          have hx2 : Blk W2 Bx 146 #[.int .i64 (q : Int), .int .i64 d, .int .i64 o] := by rw [hW2]; exact (HX1.out.far hbd _).drew
          have hwd : wb ≠ db := Blk.row_ne HI1.out.wk HI1.out.dp (by decide)
          have hk2 : Blk W2 wb 105 #[.slice (some ⟨db, 0, none⟩) n n, rv] := by rw [hW2]; exact (HI1.out.wk.far hwd _).drew
          have hb2 : Blk W2 w.heap.size 103 #[.pointer (some ⟨wb, 0, none⟩)] := by rw [hW2]; exact (HI1.out.b2.far (by omega) _).drew
          have hro2 : W2.ownsRow B 3 1 rv row.length ((ints row).map (Value.int .i64)) := by rw [hW2]; exact own_drew (own_set HI1.out.ro hdb _)
          have hz2 : W1.heap.size ≤ W2.heap.size := by rw [hW2]; simp [World.setCell, World.drew]
          have hzw1 : w.heap.size ≤ W1.heap.size := HI1.out.tu.size
          clear x0 x1 y0 k0 d0 fd
          have x0 := hx2.cell 0
          have y0 := hb2.cell 0
          have k1 := hk2.cell 1; have f1 := hk2.frozen 1
          simp at x0 y0 k1
          have HW2 := Lib.hid hW2; have HRO2 := Lib.hid hro2; have HK2 := Lib.hid hk2
          clear hW2 hro2 hx2 hk2 hb2
          have hzz1 : W.heap.size ≤ W1.heap.size := by rw [HW1.out]; exact Nat.le_refl _
          have lw2 : wb < W2.heap.size := HK2.out.lt
          have lp2 : w.heap.size < W2.heap.size := by omega
          have lx2 : Bx < W2.heap.size := by omega
          have hrl2 : row.length ≤ s0.2.length + pre.length := hrl1
          have hrow1 : row.length + 1 ≤ 1000000001 := by omega
          have hBW : B ≤ W2.heap.size := by omega
          have nrow : ∀ k, rv.ownBlock = some k → B ≤ k := fun k hk => (HRO2.out.lt k hk).1
          have np2 : some w.heap.size ≠ rv.ownBlock := fun e => own_blk_ne HI1.out.ro HI1.out.b2 (by decide) e.symm
          have nx2 : some Bx ≠ rv.ownBlock := fun e => own_blk_ne HI1.out.ro HX1.out (by decide) e.symm
          have nw2 : some wb ≠ rv.ownBlock := fun e => by have := nrow _ e.symm; omega
          have HNR := Lib.hid nrow; have HN2 := Lib.hid np2; have HNX := Lib.hid nx2; have HNW := Lib.hid nw2
          have hpw : w.heap.size ≠ wb := by omega
          have hxw : Bx ≠ wb := by omega
          clear nrow np2 nx2 nw2
          refine held_round l (fun w' => w'.cell? ⟨w.heap.size, 0, none⟩ = some (.pointer (some ⟨wb, 0, none⟩)) ∧ w'.cell? ⟨Bx, 0, none⟩ = some (.int .i64 (q : Int))) (by kernel_rfl) (by kernel_rfl) (by rintro ⟨a, w, h⟩; exact h) ?_
          change wpAnyH _ _ _ _ _ _ _ _ (World.drew _)
          have hS0 : W2.drew.cell? ⟨w.heap.size, 0, none⟩ = some (.pointer (some ⟨wb, 0, none⟩)) ∧ W2.drew.cell? ⟨Bx, 0, none⟩ = some (.int .i64 (q : Int)) := ⟨y0, x0⟩
          have hS1 : (W2.alloc (.cells #[.int .i64 (q : Int)] 3)).drew.cell? ⟨w.heap.size, 0, none⟩ = some (.pointer (some ⟨wb, 0, none⟩)) ∧ (W2.alloc (.cells #[.int .i64 (q : Int)] 3)).drew.cell? ⟨Bx, 0, none⟩ = some (.int .i64 (q : Int)) := ⟨(cell_old1 lp2).trans y0, (cell_old1 lx2).trans x0⟩
          have k1a : (W2.alloc (.cells #[.int .i64 (q : Int)] 3)).drew.cell? ⟨wb, 1, none⟩ = some rv := (cell_old1 lw2).trans k1
          refine wpAnyH_take (i := 0) (v := .pointer (some ⟨wb, 0, none⟩)) rfl (by kernel_rfl) (by kernel_rfl) (by kernel_rfl) (fun _ _ _ h => h) (Or.inl ⟨by rfl, by intro w hS; obtain ⟨h1, h3⟩ := hS; go_simp⟩) hS0 ?_
          simp only [Act.put, List.setIfInBounds_toArray, List.set_cons_zero, List.set_cons_succ]
          refine wpAnyH_take (i := 1) (v := .pointer (some ⟨wb, 0, none⟩)) rfl (by kernel_rfl) (by kernel_rfl) (by kernel_rfl) (fun _ _ _ h => h) (Or.inl ⟨by rfl, by intro w hS; obtain ⟨h1, h3⟩ := hS; go_simp⟩) hS0 ?_
          simp only [Act.put, List.setIfInBounds_toArray, List.set_cons_zero, List.set_cons_succ]
          refine wpAnyH_take (i := 2) (v := .pointer (some ⟨wb, 0, none⟩)) rfl (by kernel_rfl) (by kernel_rfl) (by kernel_rfl) (fun _ _ _ h => h) (Or.inl ⟨by rfl, by intro w hS; obtain ⟨h1, h3⟩ := hS; go_simp⟩) hS0 ?_
          simp only [Act.put, List.setIfInBounds_toArray, List.set_cons_zero, List.set_cons_succ]
          refine wpAnyH_take (i := 3) (v := .pointer (some ⟨wb, 1, none⟩)) rfl (by kernel_rfl) (by kernel_rfl) (by kernel_rfl) (fun _ _ _ h => h) (Or.inl ⟨by rfl, by intro w hS; obtain ⟨h1, h3⟩ := hS; go_simp⟩) hS0 ?_
          simp only [Act.put, List.setIfInBounds_toArray, List.set_cons_zero, List.set_cons_succ]
          refine wpAnyH_take (i := 5) (v := .pointer (some ⟨Bx, 0, none⟩)) rfl (by kernel_rfl) (by kernel_rfl) (by kernel_rfl) (fun _ _ _ h => h) (Or.inl ⟨by rfl, by intro w hS; obtain ⟨h1, h3⟩ := hS; go_simp⟩) hS0 ?_
          simp only [Act.put, List.setIfInBounds_toArray, List.set_cons_zero, List.set_cons_succ]
          refine wpAnyH_take (i := 6) (v := .int .i64 (q : Int)) rfl (by kernel_rfl) (by kernel_rfl) (by kernel_rfl) (fun _ _ _ h => h) (Or.inl ⟨by rfl, by intro w hS; obtain ⟨h1, h3⟩ := hS; go_simp⟩) hS0 ?_
          simp only [Act.put, List.setIfInBounds_toArray, List.set_cons_zero, List.set_cons_succ]
          refine wpAnyH_ready (rs := [4, 7]) (by kernel_rfl) (by simp) ?_
          refine AllReadyH.cons rfl (fun K hK => ?_) (AllReadyH.cons rfl (fun K hK => ?_) AllReadyH.nil)
          · go_simp
            refine hK.out _ _ hS0 (fun hHeld => ?_)
            clear hK K
            refine wpAnyH_ready (rs := [7]) (by kernel_rfl) (by simp) ?_
            refine AllReadyH.cons rfl (fun K hK => ?_) AllReadyH.nil
            go_simp
            refine hK.out _ _ hS1 (fun hHeld => ?_)
            clear hK K
            refine wpAnyH_ready (rs := [8]) (by kernel_rfl) (by simp) ?_
            refine AllReadyH.cons rfl (fun K hK => ?_) AllReadyH.nil
            refine step_append_lies _ (by rfl) (.tmp 48) (.tmp 51) 22 (by rfl) B 3 i0 (.int .i64 0) 1 8 Try.underlying22 hi0 hz0 hzs hzb rfl (by decide) rv row.length ((ints row).map (Value.int .i64)) (by rfl) (own_drew (HRO2.out.alloc _)) ⟨W2.heap.size, 0, none⟩ 1 1 [.int .i64 (q : Int)] (by rfl) (by rfl) (World.news_of_block (cs := #[.int .i64 (q : Int)]) (t := 3) (fr := (0, 0)) (heap_alloc_new W2 _)) (by simp [Value.oneCell']) (by decide) (by unfold maxLen; omega) (by omega) (by simp; omega) (W2.heap.size + 1) (by simp) ?_
            intro g2 cap2 w3 hown3 hgrow3 hat3 hglt3
            simp only [Act.put, List.setIfInBounds_toArray, List.set_cons_zero, List.set_cons_succ]
            have hS3 : w3.cell? ⟨w.heap.size, 0, none⟩ = some (.pointer (some ⟨wb, 0, none⟩)) ∧ w3.cell? ⟨Bx, 0, none⟩ = some (.int .i64 (q : Int)) := ⟨(hgrow3.cell_far ⟨w.heap.size, 0, none⟩ (by show w.heap.size < (W2.alloc _).heap.size; simp only [World.size_alloc]; omega) HN2.out).trans hS1.1, (hgrow3.cell_far ⟨Bx, 0, none⟩ (by show Bx < (W2.alloc _).heap.size; simp only [World.size_alloc]; omega) HNX.out).trans hS1.2⟩
            have kb3 := (HK2.out.alloc (.cells #[.int .i64 (q : Int)] 3)).drew.grown hgrow3 HNW.out
            have j1 := kb3.cell 1; have jf := kb3.frozen 1
            simp at j1
            have HOW := Lib.hid hown3; have HGR := Lib.hid hgrow3; have HAT := Lib.hid hat3; have HKB := Lib.hid kb3
            clear hown3 hgrow3 hat3 kb3
            refine hK.out _ _ hS3 (fun hHeld => ?_)
            clear hK K
            refine wpAnyH_take (i := 9) (v := .pointer (some ⟨wb, 0, none⟩)) rfl (by kernel_rfl) (by kernel_rfl) (by kernel_rfl) (fun _ _ _ h => h) (Or.inl ⟨by rfl, by intro w hS; obtain ⟨h1, h3⟩ := hS; go_simp⟩) hS3 ?_
            simp only [Act.put, List.setIfInBounds_toArray, List.set_cons_zero, List.set_cons_succ]
            refine wpAnyH_take (i := 10) (v := .pointer (some ⟨wb, 1, none⟩)) rfl (by kernel_rfl) (by kernel_rfl) (by kernel_rfl) (fun _ _ _ h => h) (Or.inl ⟨by rfl, by intro w hS; obtain ⟨h1, h3⟩ := hS; go_simp⟩) hS3 ?_
            simp only [Act.put, List.setIfInBounds_toArray, List.set_cons_zero, List.set_cons_succ]
            refine wpAnyH_ready (rs := [11]) (by kernel_rfl) (by simp) ?_
            refine AllReadyH.cons rfl (fun K hK => ?_) AllReadyH.nil
            go_simp
            have hS4 : (w3.setCell ⟨wb, 1, none⟩ (.slice (some ⟨g2, 0, none⟩) (row.length + 1) cap2)).cell? ⟨w.heap.size, 0, none⟩ = some (.pointer (some ⟨wb, 0, none⟩)) ∧ (w3.setCell ⟨wb, 1, none⟩ (.slice (some ⟨g2, 0, none⟩) (row.length + 1) cap2)).cell? ⟨Bx, 0, none⟩ = some (.int .i64 (q : Int)) :=
              ⟨(World.cell?_setCell_other _ _ _ _ (fun e => by simp at e)).trans hS3.1, (World.cell?_setCell_other _ _ _ _ (fun e => by simp at e)).trans hS3.2⟩
            refine hK.out _ _ hS4 (fun hHeld => ?_)
            clear hK K
            refine wpAnyH_done (by kernel_rfl) ?_ _
            gi_wp2
            refine tk_new (W2 := (W2.alloc (.cells #[.int .i64 (q : Int)] 3)).drew) (o := .cells #[.int .i64 (q : Int)] 3) HI.out HS.out HT.out hB hwb hdb k1n ?_ HOW.out HGR.out ?_ _ ?_
            · rw [HW2.out, HW1.out]; rfl
            · simpa using HAT.out
            · omega
          · go_simp
            refine hK.out _ _ hS1 (fun hHeld => ?_)
            clear hK K
            refine wpAnyH_ready (rs := [4]) (by kernel_rfl) (by simp) ?_
            refine AllReadyH.cons rfl (fun K hK => ?_) AllReadyH.nil
            go_simp
            refine hK.out _ _ hS1 (fun hHeld => ?_)
            clear hK K
            refine wpAnyH_ready (rs := [8]) (by kernel_rfl) (by simp) ?_
            refine AllReadyH.cons rfl (fun K hK => ?_) AllReadyH.nil
            refine step_append_lies _ (by rfl) (.tmp 48) (.tmp 51) 22 (by rfl) B 3 i0 (.int .i64 0) 1 8 Try.underlying22 hi0 hz0 hzs hzb rfl (by decide) rv row.length ((ints row).map (Value.int .i64)) (by rfl) (own_drew (HRO2.out.alloc _)) ⟨W2.heap.size, 0, none⟩ 1 1 [.int .i64 (q : Int)] (by rfl) (by rfl) (World.news_of_block (cs := #[.int .i64 (q : Int)]) (t := 3) (fr := (0, 0)) (heap_alloc_new W2 _)) (by simp [Value.oneCell']) (by decide) (by unfold maxLen; omega) (by omega) (by simp; omega) (W2.heap.size + 1) (by simp) ?_
            intro g2 cap2 w3 hown3 hgrow3 hat3 hglt3
            simp only [Act.put, List.setIfInBounds_toArray, List.set_cons_zero, List.set_cons_succ]
            have hS3 : w3.cell? ⟨w.heap.size, 0, none⟩ = some (.pointer (some ⟨wb, 0, none⟩)) ∧ w3.cell? ⟨Bx, 0, none⟩ = some (.int .i64 (q : Int)) := ⟨(hgrow3.cell_far ⟨w.heap.size, 0, none⟩ (by show w.heap.size < (W2.alloc _).heap.size; simp only [World.size_alloc]; omega) HN2.out).trans hS1.1, (hgrow3.cell_far ⟨Bx, 0, none⟩ (by show Bx < (W2.alloc _).heap.size; simp only [World.size_alloc]; omega) HNX.out).trans hS1.2⟩
            have kb3 := (HK2.out.alloc (.cells #[.int .i64 (q : Int)] 3)).drew.grown hgrow3 HNW.out
            have j1 := kb3.cell 1; have jf := kb3.frozen 1
            simp at j1
            have HOW := Lib.hid hown3; have HGR := Lib.hid hgrow3; have HAT := Lib.hid hat3; have HKB := Lib.hid kb3
            clear hown3 hgrow3 hat3 kb3
            refine hK.out _ _ hS3 (fun hHeld => ?_)
            clear hK K
            refine wpAnyH_take (i := 9) (v := .pointer (some ⟨wb, 0, none⟩)) rfl (by kernel_rfl) (by kernel_rfl) (by kernel_rfl) (fun _ _ _ h => h) (Or.inl ⟨by rfl, by intro w hS; obtain ⟨h1, h3⟩ := hS; go_simp⟩) hS3 ?_
            simp only [Act.put, List.setIfInBounds_toArray, List.set_cons_zero, List.set_cons_succ]
            refine wpAnyH_take (i := 10) (v := .pointer (some ⟨wb, 1, none⟩)) rfl (by kernel_rfl) (by kernel_rfl) (by kernel_rfl) (fun _ _ _ h => h) (Or.inl ⟨by rfl, by intro w hS; obtain ⟨h1, h3⟩ := hS; go_simp⟩) hS3 ?_
            simp only [Act.put, List.setIfInBounds_toArray, List.set_cons_zero, List.set_cons_succ]
            refine wpAnyH_ready (rs := [11]) (by kernel_rfl) (by simp) ?_
            refine AllReadyH.cons rfl (fun K hK => ?_) AllReadyH.nil
            go_simp
            have hS4 : (w3.setCell ⟨wb, 1, none⟩ (.slice (some ⟨g2, 0, none⟩) (row.length + 1) cap2)).cell? ⟨w.heap.size, 0, none⟩ = some (.pointer (some ⟨wb, 0, none⟩)) ∧ (w3.setCell ⟨wb, 1, none⟩ (.slice (some ⟨g2, 0, none⟩) (row.length + 1) cap2)).cell? ⟨Bx, 0, none⟩ = some (.int .i64 (q : Int)) :=
              ⟨(World.cell?_setCell_other _ _ _ _ (fun e => by simp at e)).trans hS3.1, (World.cell?_setCell_other _ _ _ _ (fun e => by simp at e)).trans hS3.2⟩
            refine hK.out _ _ hS4 (fun hHeld => ?_)
            clear hK K
            refine wpAnyH_done (by kernel_rfl) ?_ _
            gi_wp2
            refine tk_new (W2 := (W2.alloc (.cells #[.int .i64 (q : Int)] 3)).drew) (o := .cells #[.int .i64 (q : Int)] 3) HI.out HS.out HT.out hB hwb hdb k1n ?_ HOW.out HGR.out ?_ _ ?_
            · rw [HW2.out, HW1.out]; rfl
            · simpa using HAT.out
            · omega
        · have hDb : (D q == 0) = false := by simp [hD]
          by_cases hDd : D q = d
          · have hDe : (D q != d) = false := by simp [hDd]
            have ht : tk n (D, row) ⟨q, d, o⟩ = some (D, row) := by unfold tk; rw [if_pos ⟨hp0, hq2⟩]; simp only [Int.toNat_natCast]; rw [if_neg hD, if_pos hDd]
            have HT := Lib.hid ht
            have hq0 : (0 : Int) ≤ (q : Int) := Int.natCast_nonneg _
            clear ht hqn hdp hp0 hD hDd
            gi_wp2
            refine quiet_round l (by kernel_rfl) (by kernel_rfl) (by kernel_rfl) ?_
            repeat (gi_big_quiet_step (fail))
            refine wpQuietIn_nil ?_
            intro _ hw'
            obtain ⟨n1, hw''⟩ := hw'
            subst hw''
            gi_wp2
            refine quiet_round l (by kernel_rfl) (by kernel_rfl) (by kernel_rfl) ?_
            repeat (gi_big_quiet_step (fail))
            refine wpQuietIn_nil ?_
            intro _ hw'
            obtain ⟨n2, hw''⟩ := hw'
            subst hw''
            gi_wp2
            refine quiet_round l (by kernel_rfl) (by kernel_rfl) (by kernel_rfl) ?_
            repeat (gi_big_quiet_step (fail))
            refine wpQuietIn_nil ?_
            intro _ hw'
            obtain ⟨n3, hw''⟩ := hw'
            subst hw''
            gi_wp2
            rw [World.drewN_drewN, World.drewN_drewN]
            exact tk_same HI.out HS.out HT.out _ _ _ _
          · have hDe : (D q != d) = true := by simp [hDd]
            have ht : tk n (D, row) ⟨q, d, o⟩ = none := by unfold tk; rw [if_pos ⟨hp0, hq2⟩]; simp only [Int.toNat_natCast]; rw [if_neg hD, if_neg hDd]
            have HT := Lib.hid ht
            have hq0 : (0 : Int) ≤ (q : Int) := Int.natCast_nonneg _
            clear ht hqn hdp hp0 hD hDd
            gi_wp2
            refine quiet_round l (by kernel_rfl) (by kernel_rfl) (by kernel_rfl) ?_
            repeat (gi_big_quiet_step (fail))
            refine wpQuietIn_nil ?_
            intro _ hw'
            obtain ⟨n1, hw''⟩ := hw'
            subst hw''
            gi_wp2
            refine quiet_round l (by kernel_rfl) (by kernel_rfl) (by kernel_rfl) ?_
            repeat (gi_big_quiet_step (fail))
            refine wpQuietIn_nil ?_
            intro _ hw'
            obtain ⟨n2, hw''⟩ := hw'
            subst hw''
            gi_wp2
            refine quiet_round l (by kernel_rfl) (by kernel_rfl) (by kernel_rfl) ?_
            repeat (gi_big_quiet_step (fail))
            refine wpQuietIn_nil ?_
            intro _ hw'
            obtain ⟨n3, hw''⟩ := hw'
            subst hw''
            gi_wp2
            exact tk_stop HI.out HS.out HT.out _ _ _
      · have hq1 : decide ((n : Int) ≤ (q : Int)) = true := by simp; omega
        have hq1n : decide (n ≤ q) = true := by simp; omega
        have ht : tk n (D, row) ⟨q, d, o⟩ = none := by unfold tk; rw [if_neg (by simp; omega)]
        have HT := Lib.hid ht
        clear ht hqn hdp hp0
        gi_wp2
        refine quiet_round l (by kernel_rfl) (by kernel_rfl) (by kernel_rfl) ?_
        repeat (gi_big_quiet_step (fail))
        refine wpQuietIn_nil ?_
        intro _ hw'
        obtain ⟨nq, hw''⟩ := hw'
        subst hw''
        gi_wp2
        exact tk_stop HI.out HS.out HT.out _ nq _
    · have hp1 : decide (p < 0) = true := by simp; omega
      have hp2 : p < 0 := by omega
      have ht : tk n (D, row) ⟨p, d, o⟩ = none := by unfold tk; rw [if_neg (by simp; omega)]
      have HT := Lib.hid ht
      clear ht hdp hp0
      gi_wp2
      refine quiet_round l (by kernel_rfl) (by kernel_rfl) (by kernel_rfl) ?_
      repeat (gi_big_quiet_step (fail))
      refine wpQuietIn_nil ?_
      intro _ hw'
      obtain ⟨nq, hw''⟩ := hw'
      subst hw''
      gi_wp2
      exact tk_stop HI.out HS.out HT.out _ nq _
  case done =>
    rintro Dd ys W hDd rfl ⟨s, rv, hs, hI⟩ hK
    obtain ⟨z4, b4⟩ := hI.b4
    obtain ⟨q5, b5⟩ := hI.b5
    have c4 := b4.cell 0; have g4 := b4.frozen 0; have c5 := b5.cell 0; have g5 := b5.frozen 0
    simp at c4 c5
    have HI := Lib.hid hI; have HS := Lib.hid hs; have HK := Lib.hid hK; have HB4 := Lib.hid b4; have HB5 := Lib.hid b5
    clear hI hs b4 b5 hK
    gi_wp2
    obtain ⟨hI3, e4, e5⟩ := HI.out.ends hB hwb hdb 0 true
    have hK' := (((KeepsOthers.setCell W ⟨w.heap.size + 1, 0, none⟩ (.int .i64 0)).trans (KeepsOthers.setCell _ ⟨w.heap.size + 1 + 1, 0, none⟩ (.bool true)))).same Dd _ HK.out rfl
    have hg := grownBy_putObj' ((W.setCell ⟨w.heap.size + 1, 0, none⟩ (.int .i64 0)).setCell ⟨w.heap.size + 1 + 1, 0, none⟩ (.bool true)) Dd (.deferred none)
    have hr : ∀ r, some Dd = some r → ∃ o : Obj, ((W.setCell ⟨w.heap.size + 1, 0, none⟩ (.int .i64 0)).setCell ⟨w.heap.size + 1 + 1, 0, none⟩ (.bool true)).heap[r]? = some o ∧ o.isCells = false := fun r e => by cases e; exact ⟨_, hK', rfl⟩
    have r4 : Blk _ (w.heap.size + 1) 3 #[.int .i64 0] := keep_cells hg hr e4
    have r5 : Blk _ (w.heap.size + 1 + 1) 4 #[.bool true] := keep_cells hg hr e5
    have r4c := r4.cell 0
    have r5c := r5.cell 0
    simp at r4c r5c
    refine ⟨by simp, .inl ⟨_, _, rfl, run_takeDeferred hK', ?_⟩⟩
    refine ⟨.tuple #[.int .i64 0, .bool true], ?_, .inl ⟨s, rv, rfl, HS.out, hI3.grown hg (fun r e => ⟨by cases e; omega, hr r e⟩)⟩⟩
    simp [results, Try.f43, go_sem, r4c, r5c]
  case stop =>
    rintro Dd c pre W hDd hpre ⟨rfl, hx, ⟨z, b4⟩, b5, tu⟩ hK
    have hnx : tkAll n s0 xs = none := by
      obtain ⟨r, hr⟩ := hpre
      rw [← hr, tkAll_append, hx]; rfl
    have hg := grownBy_putObj' W Dd (.deferred none)
    have hr : ∀ r, some Dd = some r → ∃ o : Obj, W.heap[r]? = some o ∧ o.isCells = false := fun r e => by cases e; exact ⟨_, hK, rfl⟩
    have r4 : Blk _ (w.heap.size + 1) 3 #[.int .i64 z] := keep_cells hg hr b4
    have r5 : Blk _ (w.heap.size + 1 + 1) 4 #[.bool false] := keep_cells hg hr b5
    have r4c := r4.cell 0
    have r5c := r5.cell 0
    simp at r4c r5c
    gi_wp2
    refine ⟨by simp, .inl ⟨_, _, rfl, run_takeDeferred hK, ?_⟩⟩
    refine ⟨.tuple #[.int .i64 z, .bool false], ?_, .inr ⟨z, rfl, hnx, ?_⟩⟩
    · simp [results, Try.f43, go_sem, r4c, r5c]
    · exact ⟨hg.os.trans tu.os, hg.tape.trans tu.tape, hg.output.trans tu.output, Nat.le_trans tu.size hg.size, fun i hi hs => (hg.block i (Nat.lt_of_lt_of_le hi tu.size) (fun e => by injection e; omega)).trans (tu.block i hi hs)⟩
end Go.Proofs.Ytfeghobfkgimfaa
