/- The two iterators: what comes from the entries, what comes behind an instruction. -/
import Derived.Test.YtfeghobfkgimfaaInstrB
import Derived.Test.YtfeghobfkgimfaaCkPure
import Derived.RangeFuncNested
import Derived.RangeFuncBound
import Derived.RangeFuncCalls
import Derived.RangeFuncLeaves
import Derived.Shelf.Abstract
import Derived.Shelf.RegionOpen
import Derived.OwnWalkIn
import Derived.TacticsInMore
import Derived.LoopNIn
import Derived.LoopIn
namespace Go.Proofs.Ytfeghobfkgimfaa
open Go.RowKit Go.Shelf
attribute [local go_sem] Oper.semAt_some

/-- Code as its cells. -/
structure CodeAt (w : World) (C : CodeD) (G : Option Addr) (gc : Nat) (I : Option Addr) (ic : Nat) : Prop where
  gcap : C.gl ≤ gc
  icap : C.ni ≤ ic
  gs : 0 < C.gl → ∃ g o, G = some ⟨g, o, none⟩ ∧ g < w.heap.size ∧ ∀ i, i < C.gl → ∃ s, w.cell? ⟨g, o + i * 3, none⟩ = some (.string s) ∧ w.cell? ⟨g, o + i * 3 + 1, none⟩ = some (.int .i64 (C.ar i)) ∧ w.cell? ⟨g, o + i * 3 + 2, none⟩ = some (.int .i64 (C.en i))
  is : 0 < C.ni → ∃ g o, I = some ⟨g, o, none⟩ ∧ g < w.heap.size ∧ ∀ i, i < C.ni → ∃ T tc, w.cell? ⟨g, o + i * 4, none⟩ = some (.int .i64 (C.ins i).op) ∧ w.cell? ⟨g, o + i * 4 + 1, none⟩ = some (.int .i64 (C.ins i).a) ∧ w.cell? ⟨g, o + i * 4 + 2, none⟩ = some (.int .i64 (C.ins i).b) ∧
    w.cell? ⟨g, o + i * 4 + 3, none⟩ = some (.slice T (C.ins i).t.length tc) ∧ TabSl w T tc (C.ins i).t

def encC (c : ComD) : Array Value := #[.agg #[.int .i64 c.p, .int .i64 c.d, .int .i64 c.o]]

/-- What a round keeps: of what lies below T, all but S. -/
def KeepT (T : Nat) (S : Nat → Prop) (W W' : World) : Prop := W.heap.size ≤ W'.heap.size ∧ ∀ k, k < T → ¬ S k → W'.heap[k]? = W.heap[k]?
theorem KeepT.refl (T : Nat) (S : Nat → Prop) (W : World) : KeepT T S W W := ⟨Nat.le_refl _, fun _ _ _ => rfl⟩
theorem keepT_t {T : Nat} {S : Nat → Prop} {A B C : World} (h : KeepT T S A B) (k : KeepT T S B C) : KeepT T S A C := ⟨Nat.le_trans h.1 k.1, fun i hi hs => (k.2 i hi hs).trans (h.2 i hi hs)⟩
theorem keepT_b {T : Nat} {S : Nat → Prop} {w : World} (hT : T ≤ w.heap.size) (W : World) (l : Nat) (o o' : Obj) (hl : w.heap.size ≤ l) (_ : W.heap[l]? = some o) (_ : o.isCells = false) (_ : o.isWalk = false) : KeepT T S W (W.putObj l o') :=
  ⟨by simp, fun _ hk _ => World.putObj_heap_other (by omega)⟩
theorem KeepT.cell {T : Nat} {S : Nat → Prop} {W W' : World} (h : KeepT T S W W') {b o : Nat} (hb : b < T) (hs : ¬ S b) : W'.cell? ⟨b, o, none⟩ = W.cell? ⟨b, o, none⟩ := World.cell?_of_block (w := W) (a := ⟨b, o, none⟩) (h.2 b hb hs)

/-- What the first k entries bring. -/
def entU (C : CodeD) (k : Nat) : List ComD := (List.range k).map fun g => ⟨C.en g, C.ar g + 1, C.en g⟩
theorem entU_all (C : CodeD) : entU C C.gl = entriesL C := rfl
theorem entU_length (C : CodeD) (k : Nat) : (entU C k).length = k := by simp [entU]
theorem entU_succ (C : CodeD) (k : Nat) : entU C (k + 1) = entU C k ++ [⟨C.en k, C.ar k + 1, C.en k⟩] := by simp [entU, List.range_succ]
theorem entU_prefix (C : CodeD) (k : Nat) (h : k ≤ C.gl) : entU C k <+: entriesL C := by
  obtain ⟨m, hm⟩ : ∃ m, C.gl = k + m := ⟨C.gl - k, by omega⟩
  rw [← entU_all, hm]
  unfold entU
  rw [List.range_add, List.map_append]
  exact List.prefix_append _ _

/-- What the first k pairs of a table bring. -/
def behU (t : List (Int × Int)) (at_ d : Int) (k : Nat) : List ComD := (t.take k).map fun q => ⟨q.2, d, at_⟩
theorem behU_all (t : List (Int × Int)) (at_ d : Int) : behU t at_ d t.length = t.map fun q => ⟨q.2, d, at_⟩ := by unfold behU; rw [List.take_length]
theorem behU_length (t : List (Int × Int)) (at_ d : Int) (k : Nat) (h : k ≤ t.length) : (behU t at_ d k).length = k := by simp [behU]; omega
theorem behU_succ (t : List (Int × Int)) (at_ d : Int) (k : Nat) (h : k < t.length) : behU t at_ d (k + 1) = behU t at_ d k ++ [⟨t[k].2, d, at_⟩] := by
  unfold behU; rw [List.take_succ_eq_append_getElem h, List.map_append]; rfl
theorem behU_prefix (t : List (Int × Int)) (at_ d : Int) (k : Nat) (_ : k ≤ t.length) : behU t at_ d k <+: behU t at_ d t.length := by
  obtain ⟨r, hr⟩ := List.take_prefix k t
  refine ⟨r.map fun q => ⟨q.2, d, at_⟩, ?_⟩
  unfold behU
  rw [← List.map_append, hr, List.take_length]

set_option maxRecDepth 100000 in
set_option maxHeartbeats 1000000 in
/-- entries' rounds. -/
theorem entries1_in (F : Fence) (n : Nat) (h80 : F.fn 80) (hro : F.round = none) (hn : 1 ≤ n) (l eb T : Nat) (S : Nat → Prop) (C : CodeD) (G : Option Addr) (gc : Nat) (J Jx : List ComD → World → Prop)
    (hgl : C.gl ≤ 65536) (ha : ∀ g, g < C.gl → 0 ≤ C.ar g ∧ C.ar g ≤ 255)
    (hJ : ∀ cs W o, J cs W → J cs (W.alloc o))
    (hY : ∀ pre x W, J pre W → pre.length < (entriesL C).length → YieldAt F (n - 1) Try.prog l (encC x) W fun e W' =>
      (e = .returned (.bool true) ∧ J (pre ++ [x]) W' ∧ KeepT T S W W') ∨ (e = .returned (.bool false) ∧ Jx (pre ++ [x]) W'))
    (W : World) (heb : W.cell? ⟨eb, 0, none⟩ = some (.slice G C.gl gc)) (hT : T ≤ W.heap.size)
    (hgs : 0 < C.gl → ∃ g o, G = some ⟨g, o, none⟩ ∧ g < T ∧ ¬ S g ∧ ∀ i, i < C.gl → ∃ s, W.cell? ⟨g, o + i * 3, none⟩ = some (.string s) ∧ W.cell? ⟨g, o + i * 3 + 1, none⟩ = some (.int .i64 (C.ar i)) ∧ W.cell? ⟨g, o + i * 3 + 2, none⟩ = some (.int .i64 (C.en i)))
    (h0 : J [] W) :
    CallsIn F n Try.prog 80 #[.func (.yield l) #[] #[], .pointer (some ⟨eb, 0, none⟩)] W fun e W' => (∃ v, e = .returned v) ∧
      ((∃ ys, ys = entriesL C ∧ J ys W') ∨ (∃ pre, pre <+: entriesL C ∧ Jx pre W')) := by
  refine callsIn_of_wp Try.func80 rfl h80 ?_ hro
  simp only [Try.ntmps80, List.size_toArray, List.length_cons, List.length_nil, Nat.reduceAdd, Nat.reduceSub, Array.replicate_succ, Array.replicate_zero, List.push_toArray, List.append_toArray, List.nil_append, List.cons_append]
  gi_wp2
  gi_loopw [8] (fun i wr => ∃ k : Nat, k ≤ C.gl ∧ i = .int .i64 k ∧ J (entU C k) wr ∧ KeepT T S W wr)
    (fun i _ => C.gl - (intOf i).toNat)
  case atStart => exact ⟨0, Nat.zero_le _, rfl, h0, KeepT.refl _ _ _⟩
  case round =>
    obtain ⟨k, hk, rfl, hJs, hnx⟩ := hrel
    by_cases hlt : k < C.gl
    · obtain ⟨g, o, rfl, hgT, hgS, hcs⟩ := hgs (by omega)
      obtain ⟨sv, e0, e1, e2⟩ := hcs k hlt
      have c0 := (hnx.cell (o := o + k * 3) hgT hgS).trans e0
      have c1 := (hnx.cell (o := o + k * 3 + 1) hgT hgS).trans e1
      have c2 := (hnx.cell (o := o + k * 3 + 2) hgT hgS).trans e2
      have har := ha k hlt
      obtain ⟨ar, har2⟩ : ∃ ar, ar = C.ar k := ⟨_, rfl⟩
      obtain ⟨en, hen2⟩ : ∃ en, en = C.en k := ⟨_, rfl⟩
      rw [← har2] at c1 har; rw [← hen2] at c2
      have hJ2 := hJ _ _ (.cells #[.string sv, .int .i64 ar, .int .i64 en] 101) hJs
      obtain ⟨fn, tmps, assign, body, hy, hR⟩ := hY _ ⟨en, ar + 1, en⟩ _ hJ2 (by rw [entU_length, ← entU_all, entU_length]; exact hlt)
      unfold encC at hy
      dsimp only at hy
      have hkT : KeepT T S W (wr.alloc (.cells #[.string sv, .int .i64 ar, .int .i64 en] 101)) := ⟨by have := hnx.1; simp; omega, fun i hi hs => (Below.heap_alloc wr _ i (by have := hnx.1; omega)).trans (hnx.2 i hi hs)⟩
      have HE : Hid (entU C k ++ [⟨en, ar + 1, en⟩] = entU C (k + 1)) := Lib.hid (by rw [entU_succ, har2, hen2])
      have hi1 : (k : Int) < (C.gl : Int) := by omega
      obtain ⟨ha1, ha2⟩ := har
      clear har2 hen2 e0 e1 e2 hcs
      gi_wp2
      refine hR.mono ?_
      rintro e W3 (⟨rfl, hJ3, hk3⟩ | ⟨rfl, hJx3⟩)
      · have hJ4 : J (entU C (k + 1)) W3 := by rw [← HE.out]; exact hJ3
        have HJ4 := Lib.hid hJ4; have HK4 := Lib.hid (keepT_t hkT hk3)
        clear hJ3 hJ4 hk3 hkT hJ2 hJs hnx hR c0 c1 c2
        gi_wp2
        go_roundw
        case rel => exact ⟨k + 1, by omega, by go_num, HJ4.out, HK4.out⟩
        case measure => simp [intOf]; omega
      · have hJx4 : Jx (entU C (k + 1)) W3 := by rw [← HE.out]; exact hJx3
        have HJ4 := Lib.hid hJx4
        clear hJx3 hJx4 hkT hJ2 hJs hnx hR c0 c1 c2
        gi_wp2
        refine bodyPost_ret (results_none rfl _ _ _) rfl ?_
        exact ⟨⟨_, rfl⟩, .inr ⟨_, entU_prefix C _ (by omega), HJ4.out⟩⟩
    · obtain rfl : k = C.gl := by omega
      have HJ := Lib.hid hJs
      clear hJs hnx
      gi_wp2
      go_end0
      exact ⟨⟨_, rfl⟩, .inl ⟨_, rfl, HJ.out⟩⟩

theorem entries_stops (F : Fence) (n : Nat) (h80 : F.fn 80) (hro : F.round = none) (hn : 1 ≤ n) (eb T : Nat) (S : Nat → Prop) (C : CodeD) (G : Option Addr) (gc : Nat) (w : World)
    (hgl : C.gl ≤ 65536) (ha : ∀ g, g < C.gl → 0 ≤ C.ar g ∧ C.ar g ≤ 255) (hebl : eb < w.heap.size) (heb : w.cell? ⟨eb, 0, none⟩ = some (.slice G C.gl gc)) (hT : T ≤ w.heap.size)
    (hgs : 0 < C.gl → ∃ g o, G = some ⟨g, o, none⟩ ∧ g < T ∧ ¬ S g ∧ ∀ i, i < C.gl → ∃ s, w.cell? ⟨g, o + i * 3, none⟩ = some (.string s) ∧ w.cell? ⟨g, o + i * 3 + 1, none⟩ = some (.int .i64 (C.ar i)) ∧ w.cell? ⟨g, o + i * 3 + 2, none⟩ = some (.int .i64 (C.en i))) :
    SeqStopsK F n Try.prog 80 #[.pointer (some ⟨eb, 0, none⟩)] encC (KeepT T S) (fun ys => ys = entriesL C) (fun pre => pre <+: entriesL C) (entriesL C).length w := fun l J Jx W hW hJ _ hY h0 =>
  entries1_in F n h80 hro hn l eb T S C G gc J Jx hgl ha (fun cs W' o hj => hJ cs W' _ none hj (World.grownBy_alloc W' o none) (fun r e => by cases e)) hY W ((hW.cell (p := ⟨eb, 0, none⟩) hebl).trans heb) (by have := hW.size; omega)
    (fun h => by
      obtain ⟨g, o, hG, hgT, hgS, hc⟩ := hgs h
      refine ⟨g, o, hG, hgT, hgS, fun i hi => ?_⟩
      obtain ⟨s, h1, h2, h3⟩ := hc i hi
      have hl : g < w.heap.size := by omega
      exact ⟨s, (hW.cell (p := ⟨g, o + i * 3, none⟩) hl).trans h1, (hW.cell (p := ⟨g, o + i * 3 + 1, none⟩) hl).trans h2, (hW.cell (p := ⟨g, o + i * 3 + 2, none⟩) hl).trans h3⟩) h0

set_option maxRecDepth 100000 in
set_option maxHeartbeats 2000000 in
/-- behind's rounds. -/
theorem behind1_in (F : Fence) (n : Nat) (h83 : F.fn 83) (hro : F.round = none) (hn : 1 ≤ n) (l xb db ab T : Nat) (S : Nat → Prop) (x : InsD) (A : Option Addr) (c : Nat) (at_ d : Int) (J Jx : List ComD → World → Prop)
    (hat : 0 ≤ at_ ∧ at_ ≤ 100000) (hlen : x.t.length ≤ 1000000000)
    (hJ : ∀ cs W o, J cs W → J cs (W.alloc o))
    (hY : ∀ pre y W, J pre W → pre.length < (behindL x at_ d).length → YieldAt F (n - 1) Try.prog l (encC y) W fun e W' =>
      (e = .returned (.bool true) ∧ J (pre ++ [y]) W' ∧ KeepT T S W W') ∨ (e = .returned (.bool false) ∧ Jx (pre ++ [y]) W'))
    (W : World) (hT : T ≤ W.heap.size)
    (hx : xb < T ∧ ¬ S xb ∧ W.cell? ⟨xb, 0, none⟩ = some (.int .i64 x.op) ∧ W.cell? ⟨xb, 1, none⟩ = some (.int .i64 x.a) ∧ W.cell? ⟨xb, 3, none⟩ = some (.slice A x.t.length c))
    (hd : db < T ∧ ¬ S db ∧ W.cell? ⟨db, 0, none⟩ = some (.int .i64 d)) (hab : ab < T ∧ ¬ S ab ∧ W.cell? ⟨ab, 0, none⟩ = some (.int .i64 at_))
    (ht : 0 < x.t.length → ∃ g o, A = some ⟨g, o, none⟩ ∧ g < T ∧ ¬ S g ∧ ∀ i (h : i < x.t.length), W.cell? ⟨g, o + i * 2, none⟩ = some (.int .i64 x.t[i].1) ∧ W.cell? ⟨g, o + i * 2 + 1, none⟩ = some (.int .i64 x.t[i].2))
    (h0 : J [] W) :
    CallsIn F n Try.prog 83 #[.func (.yield l) #[] #[], .pointer (some ⟨xb, 0, none⟩), .pointer (some ⟨db, 0, none⟩), .pointer (some ⟨ab, 0, none⟩)] W fun e W' => (∃ v, e = .returned v) ∧
      ((∃ ys, ys = behindL x at_ d ∧ J ys W') ∨ (∃ pre, pre <+: behindL x at_ d ∧ Jx pre W')) := by
  obtain ⟨hx1, hx2, x0, x1, x3⟩ := hx
  obtain ⟨hd1, hd2, d0⟩ := hd
  obtain ⟨ha1, ha2, a0⟩ := hab
  obtain ⟨hat0, hat1⟩ := hat
  obtain ⟨op, a, b, t⟩ := x
  simp only at x0 x1 x3 ht hlen
  by_cases h9 : op = 9 ∨ op = 15
  · have hb : behindL ⟨op, a, b, t⟩ at_ d = [] := by unfold behindL; rw [if_pos h9]
    rw [hb]
    have HJ := Lib.hid h0
    clear hY hJ hb ht h0
    refine callsIn_of_wp Try.func83 rfl h83 ?_ hro
    simp only [Try.ntmps83, List.size_toArray, List.length_cons, List.length_nil, Nat.reduceAdd, Nat.reduceSub, Array.replicate_succ, Array.replicate_zero, List.push_toArray, List.append_toArray, List.nil_append, List.cons_append]
    rcases h9 with h9 | h9
    · have e9 : (op == 9) = true := by simp [h9]
      clear h9
      gi_wp2
      go_end0
      exact ⟨⟨_, rfl⟩, .inl ⟨_, rfl, HJ.out⟩⟩
    · have e9 : (op == 9) = false := by simp [h9]
      have e15 : (op == 15) = true := by simp [h9]
      clear h9
      gi_wp2
      go_end0
      exact ⟨⟨_, rfl⟩, .inl ⟨_, rfl, HJ.out⟩⟩
  · have e9 : (op == 9) = false := by simp; omega
    have e15 : (op == 15) = false := by simp; omega
    by_cases h16 : op = 16
    · have hb : behindL ⟨op, a, b, t⟩ at_ d = [⟨a, d, at_⟩] := by unfold behindL; rw [if_neg h9, if_pos h16]
      rw [hb] at hY ⊢
      have e16 : (op == 16) = true := by simp [h16]
      obtain ⟨fn, tmps, assign, body, hy, hR⟩ := hY [] ⟨a, d, at_⟩ W h0 (by simp)
      unfold encC at hy
      dsimp only at hy
      clear hY hJ hb ht h0 h9 h16
      refine callsIn_of_wp Try.func83 rfl h83 ?_ hro
      simp only [Try.ntmps83, List.size_toArray, List.length_cons, List.length_nil, Nat.reduceAdd, Nat.reduceSub, Array.replicate_succ, Array.replicate_zero, List.push_toArray, List.append_toArray, List.nil_append, List.cons_append]
      gi_wp2
      refine hR.mono ?_
      rintro e W3 (⟨rfl, hJ3, hk3⟩ | ⟨rfl, hJx3⟩)
      · have HJ := Lib.hid hJ3
        clear hJ3 hk3
        gi_wp2
        go_end0
        exact ⟨⟨_, rfl⟩, .inl ⟨_, rfl, HJ.out⟩⟩
      · have HJ := Lib.hid hJx3
        clear hJx3
        gi_wp2
        go_end0
        exact ⟨⟨_, rfl⟩, .inr ⟨_, List.prefix_refl _, HJ.out⟩⟩
    · have e16 : (op == 16) = false := by simp [h16]
      by_cases h11 : op = 11 ∨ op = 13
      · have hb : behindL ⟨op, a, b, t⟩ at_ d = behU t at_ d t.length := by unfold behindL; rw [if_neg h9, if_neg h16, if_pos h11, behU_all]
        rw [hb] at hY ⊢
        rw [behU_length _ _ _ _ (Nat.le_refl _)] at hY
        obtain ⟨X, hX⟩ : ∃ X, X = t.length := ⟨_, rfl⟩
        rw [← hX] at hY x3 hlen ⊢
        have HX := Lib.hid hX
        have HT := Lib.hid ht
        clear hb ht h9 h16 hX
        have hway : ((op == 11) = true) ∨ ((op == 11) = false ∧ (op == 13) = true) := by
          rcases h11 with h | h
          · exact .inl (by simp [h])
          · exact .inr ⟨by simp [h], by simp [h]⟩
        clear h11
        refine callsIn_of_wp Try.func83 rfl h83 ?_ hro
        simp only [Try.ntmps83, List.size_toArray, List.length_cons, List.length_nil, Nat.reduceAdd, Nat.reduceSub, Array.replicate_succ, Array.replicate_zero, List.push_toArray, List.append_toArray, List.nil_append, List.cons_append]
        rcases hway with e11 | ⟨e11, e13⟩
        all_goals
          gi_wp2
          gi_loopw [34] (fun i wr => ∃ k : Nat, k ≤ X ∧ i = .int .i64 k ∧ J (behU t at_ d k) wr ∧ KeepT T S W wr)
            (fun i _ => X - (intOf i).toNat)
          case atStart => exact ⟨0, Nat.zero_le _, rfl, h0, KeepT.refl _ _ _⟩
          case round =>
            obtain ⟨k, hk, rfl, hJs, hnx⟩ := hrel
            by_cases hlt : k < X
            · obtain ⟨g, o, rfl, hgT, hgS, hcs⟩ := HT.out (by rw [← HX.out]; omega)
              have hkt : k < t.length := by rw [← HX.out]; exact hlt
              obtain ⟨e0, e1⟩ := hcs k hkt
              obtain ⟨q1, hq1⟩ : ∃ q, q = t[k].1 := ⟨_, rfl⟩
              obtain ⟨q2, hq2⟩ : ∃ q, q = t[k].2 := ⟨_, rfl⟩
              rw [← hq1] at e0; rw [← hq2] at e1
              have c0 := (hnx.cell (o := o + k * 2) hgT hgS).trans e0
              have c1 := (hnx.cell (o := o + k * 2 + 1) hgT hgS).trans e1
              have dd := (hnx.cell (o := 0) hd1 hd2).trans d0
              have aa := (hnx.cell (o := 0) ha1 ha2).trans a0
              have hsz := hnx.1
              have hJ2 := hJ _ _ (.cells #[.int .i64 q1, .int .i64 q2] 46) hJs
              have hdl : db < wr.heap.size := by omega
              have hal : ab < wr.heap.size := by omega
              obtain ⟨fn, tmps, assign, body, hy, hR⟩ := hY _ ⟨q2, d, at_⟩ _ hJ2 (by rw [behU_length _ _ _ _ (by omega)]; exact hlt)
              unfold encC at hy
              dsimp only at hy
              have hkT : KeepT T S W (wr.alloc (.cells #[.int .i64 q1, .int .i64 q2] 46)) := ⟨by simp; omega, fun i hi hs => (Below.heap_alloc wr _ i (by omega)).trans (hnx.2 i hi hs)⟩
              have HE : Hid (behU t at_ d k ++ [⟨q2, d, at_⟩] = behU t at_ d (k + 1)) := Lib.hid (by rw [behU_succ _ _ _ _ hkt, hq2])
              have hi1 : (k : Int) < (X : Int) := by omega
              clear hq1 hq2 e0 e1 hcs
              gi_wp2
              refine hR.mono ?_
              rintro e W3 (⟨rfl, hJ3, hk3⟩ | ⟨rfl, hJx3⟩)
              · have hJ4 : J (behU t at_ d (k + 1)) W3 := by rw [← HE.out]; exact hJ3
                have HJ4 := Lib.hid hJ4; have HK4 := Lib.hid (keepT_t hkT hk3)
                clear hJ3 hJ4 hk3 hkT hJ2 hJs hnx hR c0 c1 dd aa
                gi_wp2
                go_roundw
                case rel => exact ⟨k + 1, by omega, by go_num, HJ4.out, HK4.out⟩
                case measure => simp [intOf]; omega
              · have hJx4 : Jx (behU t at_ d (k + 1)) W3 := by rw [← HE.out]; exact hJx3
                have HJ4 := Lib.hid hJx4
                clear hJx3 hJx4 hkT hJ2 hJs hnx hR c0 c1 dd aa
                gi_wp2
                refine bodyPost_ret (results_none rfl _ _ _) rfl ?_
                exact ⟨⟨_, rfl⟩, .inr ⟨_, by rw [HX.out]; exact behU_prefix _ _ _ _ (by omega), HJ4.out⟩⟩
            · obtain rfl : k = X := by omega
              have HJ := Lib.hid hJs
              clear hJs hnx
              gi_wp2
              go_end0
              exact ⟨⟨_, rfl⟩, .inl ⟨_, rfl, HJ.out⟩⟩
      · have e11 : (op == 11) = false := by simp; omega
        have e13 : (op == 13) = false := by simp; omega
        have hb : behindL ⟨op, a, b, t⟩ at_ d = [⟨at_ + 1, d, at_⟩] := by unfold behindL; rw [if_neg h9, if_neg h16, if_neg h11]
        rw [hb] at hY ⊢
        obtain ⟨fn, tmps, assign, body, hy, hR⟩ := hY [] ⟨at_ + 1, d, at_⟩ W h0 (by simp)
        unfold encC at hy
        dsimp only at hy
        clear hY hJ hb ht h0 h9 h16 h11
        refine callsIn_of_wp Try.func83 rfl h83 ?_ hro
        simp only [Try.ntmps83, List.size_toArray, List.length_cons, List.length_nil, Nat.reduceAdd, Nat.reduceSub, Array.replicate_succ, Array.replicate_zero, List.push_toArray, List.append_toArray, List.nil_append, List.cons_append]
        gi_wp2
        refine hR.mono ?_
        rintro e W3 (⟨rfl, hJ3, hk3⟩ | ⟨rfl, hJx3⟩)
        · have HJ := Lib.hid hJ3
          clear hJ3 hk3
          gi_wp2
          go_end0
          exact ⟨⟨_, rfl⟩, .inl ⟨_, rfl, HJ.out⟩⟩
        · have HJ := Lib.hid hJx3
          clear hJx3
          gi_wp2
          go_end0
          exact ⟨⟨_, rfl⟩, .inr ⟨_, List.prefix_refl _, HJ.out⟩⟩

theorem behind_stops (F : Fence) (n : Nat) (h83 : F.fn 83) (hro : F.round = none) (hn : 1 ≤ n) (xb db ab T : Nat) (S : Nat → Prop) (x : InsD) (A : Option Addr) (c : Nat) (at_ d : Int) (w : World)
    (hat : 0 ≤ at_ ∧ at_ ≤ 100000) (hlen : x.t.length ≤ 1000000000) (hT : T ≤ w.heap.size)
    (hx : xb < T ∧ ¬ S xb ∧ w.cell? ⟨xb, 0, none⟩ = some (.int .i64 x.op) ∧ w.cell? ⟨xb, 1, none⟩ = some (.int .i64 x.a) ∧ w.cell? ⟨xb, 3, none⟩ = some (.slice A x.t.length c))
    (hd : db < T ∧ ¬ S db ∧ w.cell? ⟨db, 0, none⟩ = some (.int .i64 d)) (hab : ab < T ∧ ¬ S ab ∧ w.cell? ⟨ab, 0, none⟩ = some (.int .i64 at_))
    (ht : 0 < x.t.length → ∃ g o, A = some ⟨g, o, none⟩ ∧ g < T ∧ ¬ S g ∧ ∀ i (h : i < x.t.length), w.cell? ⟨g, o + i * 2, none⟩ = some (.int .i64 x.t[i].1) ∧ w.cell? ⟨g, o + i * 2 + 1, none⟩ = some (.int .i64 x.t[i].2)) :
    SeqStopsK F n Try.prog 83 #[.pointer (some ⟨xb, 0, none⟩), .pointer (some ⟨db, 0, none⟩), .pointer (some ⟨ab, 0, none⟩)] encC (KeepT T S) (fun ys => ys = behindL x at_ d) (fun pre => pre <+: behindL x at_ d) (behindL x at_ d).length w := fun l J Jx W hW hJ _ hY h0 => by
  have hb : ∀ {k o v}, k < T → w.cell? ⟨k, o, none⟩ = some v → W.cell? ⟨k, o, none⟩ = some v := fun {k o v} hk h => (hW.cell (p := ⟨k, o, none⟩) (show k < w.heap.size by omega)).trans h
  exact behind1_in F n h83 hro hn l xb db ab T S x A c at_ d J Jx hat hlen (fun cs W' o hj => hJ cs W' _ none hj (World.grownBy_alloc W' o none) (fun r e => by cases e)) hY W (by have := hW.size; omega)
    ⟨hx.1, hx.2.1, hb hx.1 hx.2.2.1, hb hx.1 hx.2.2.2.1, hb hx.1 hx.2.2.2.2⟩ ⟨hd.1, hd.2.1, hb hd.1 hd.2.2⟩ ⟨hab.1, hab.2.1, hb hab.1 hab.2.2⟩
    (fun h => by
      obtain ⟨g, o, hG, hgT, hgS, hc⟩ := ht h
      exact ⟨g, o, hG, hgT, hgS, fun i hi => ⟨hb hgT (hc i hi).1, hb hgT (hc i hi).2⟩⟩) h0
end Go.Proofs.Ytfeghobfkgimfaa
