/- Depths: what its takes do. -/
import Derived.Test.YtfeghobfkgimfaaDepthA
import Derived.Test.YtfeghobfkgimfaaBoxW
namespace Go.Proofs.Ytfeghobfkgimfaa
open Go.RowKit

theorem swb_low {wb db L : Nat} {rv : Value} {W : World} {B n : Nat} {xs : List Value} (h1 : L ≤ wb) (h2 : L ≤ db) (h3 : L ≤ B) (ro : W.ownsRow B 3 1 rv n xs) : ∀ k, SwB wb db rv k → L ≤ k := by
  rintro k (rfl | rfl | h)
  · exact h1
  · exact h2
  · have := (ro.lt k h).1; omega

theorem take_ent (C : CodeD) (G I : Option Addr) (gc ic : Nat) (w W : World) (hC : CodeAt w C G gc I ic) (hW : Below w.heap.size w W) (B wb db eb : Nat) (rv : Value) (hB : B ≤ W.heap.size) (hwb : wb < B) (hdb : db < B) (h1 : w.heap.size ≤ wb) (h2 : w.heap.size ≤ db) (h3 : w.heap.size ≤ B)
    (heb : Blk W eb 29 #[.slice G C.gl gc, .slice I C.ni ic]) (hni : C.ni ≤ 65536) (hgl : C.gl ≤ 65536) (har : arsOk C)
    (wk : Blk W wb 105 #[.slice (some ⟨db, 0, none⟩) C.ni C.ni, rv]) (dp : W.rowIs db 3 C.ni (fun _ => .int .i64 0)) (ro : W.ownsRow B 3 1 rv 0 []) :
    Calls Try.prog 43 #[.pointer (some ⟨wb, 0, none⟩), .func (.func 80) #[] #[.pointer (some ⟨eb, 0, none⟩)]] W (TakeV W B wb db C.ni rv (fun _ => 0, []) (entriesL C)) := by
  have hlow := swb_low h1 h2 h3 ro
  refine take_any W B wb db C.ni 80 _ rv (fun _ => 0, []) (entriesL C) (by omega) hB hwb hdb (by simp [entriesL]; omega) enters80 ?_ wk dp ro
  refine entries_stops Fence.wide 9 trivial rfl (by decide) eb W.heap.size _ C G gc W hgl har heb.lt (heb.cell 0) (Nat.le_refl _) (fun h0 => ?_)
  obtain ⟨g, o, hG, hl, hc⟩ := hC.gs h0
  refine ⟨g, o, hG, Nat.lt_of_lt_of_le hl hW.size, fun hs => by have := hlow g hs; omega, fun i hi => ?_⟩
  obtain ⟨s, e1, e2, e3⟩ := hc i hi
  exact ⟨s, (hW.cell (p := ⟨g, o + i * 3, none⟩) hl).trans e1, (hW.cell (p := ⟨g, o + i * 3 + 1, none⟩) hl).trans e2, (hW.cell (p := ⟨g, o + i * 3 + 2, none⟩) hl).trans e3⟩

theorem behind_len {x : InsD} {at_ d : Int} (h : rightF x = true) : (behindL x at_ d).length ≤ 65537 := by
  have hok := rightF_true.1 h
  unfold behindL
  split
  · simp
  · split
    · simp
    · split
      · rename_i h1
        have hp : pairsOk x.op x.t := by
          have := hok.2.2.2.2
          rw [if_pos (by rcases h1 with h1 | h1 <;> rw [h1] <;> decide)] at this
          exact this
        have h2 := hp.2.1
        have : mostPairs x.op ≤ 65536 := by unfold mostPairs; split <;> omega
        simp; omega
      · simp

theorem take_beh (C : CodeD) (w W : World) (x : InsD) (A : Option Addr) (c : Nat) (p : Nat) (d : Int) (hx : TabSl w A c x.t) (hr : rightF x = true) (hxl : x.t.length ≤ 1000000000) (hp : p ≤ 65536) (hW : Below w.heap.size w W) (B wb db xb ab eb : Nat) (rv : Value) (s : (Nat → Int) × List Nat) (hs : s.2.length ≤ 65536) (hB : B ≤ W.heap.size) (hwb : wb < B) (hdb : db < B) (h1 : w.heap.size ≤ wb) (h2 : w.heap.size ≤ db) (h3 : w.heap.size ≤ B)
    (bx : Blk W xb 32 #[.int .i64 x.op, .int .i64 x.a, .int .i64 x.b, .slice A x.t.length c]) (ba : Blk W ab 3 #[.int .i64 p]) (bd : Blk W eb 3 #[.int .i64 d]) (hab : ab ≠ db) (heb : eb ≠ db) (hab2 : rv.ownBlock ≠ some ab) (heb2 : rv.ownBlock ≠ some eb) (hni : C.ni ≤ 65536)
    (wk : Blk W wb 105 #[.slice (some ⟨db, 0, none⟩) C.ni C.ni, rv]) (dp : W.rowIs db 3 C.ni (fun i => .int .i64 (s.1 i))) (ro : W.ownsRow B 3 1 rv s.2.length ((ints s.2).map (Value.int .i64))) :
    Calls Try.prog 43 #[.pointer (some ⟨wb, 0, none⟩), .func (.func 83) #[] #[.pointer (some ⟨xb, 0, none⟩), .pointer (some ⟨eb, 0, none⟩), .pointer (some ⟨ab, 0, none⟩)]] W (TakeV W B wb db C.ni rv s (behindL x p d)) := by
  have hlow := swb_low h1 h2 h3 ro
  have hl := behind_len (at_ := (p : Int)) (d := d) hr
  refine take_any W B wb db C.ni 83 _ rv s _ (by omega) hB hwb hdb (by omega) enters83 ?_ wk dp ro
  have nx : ¬ SwB wb db rv xb := by
    rintro (e | e | e)
    · exact (Blk.ne_ bx wk (by decide)) e
    · exact (Blk.row_ne bx dp (by decide)) e
    · exact own_blk_ne ro bx (by decide) e
  have na : ¬ SwB wb db rv ab := by
    rintro (e | e | e)
    · exact (Blk.ne_ ba wk (by decide)) e
    · exact hab e
    · exact hab2 e
  have ne : ¬ SwB wb db rv eb := by
    rintro (e | e | e)
    · exact (Blk.ne_ bd wk (by decide)) e
    · exact heb e
    · exact heb2 e
  refine behind_stops Fence.wide 9 trivial rfl (by decide) xb eb ab W.heap.size _ x A c p d W (by omega) hxl (Nat.le_refl _) ⟨bx.lt, nx, bx.cell 0, bx.cell 1, bx.cell 3⟩ ⟨bd.lt, ne, bd.cell 0⟩ ⟨ba.lt, na, ba.cell 0⟩ (fun h0 => ?_)
  obtain ⟨g, o, hG, hg, hc⟩ := hx.2 h0
  exact ⟨g, o, hG, Nat.lt_of_lt_of_le hg hW.size, fun hs => by have := hlow g hs; omega, fun i hi => ⟨(hW.cell (p := ⟨g, o + i * 2, none⟩) hg).trans (hc i hi).1, (hW.cell (p := ⟨g, o + i * 2 + 1, none⟩) hg).trans (hc i hi).2⟩⟩
end Go.Proofs.Ytfeghobfkgimfaa
