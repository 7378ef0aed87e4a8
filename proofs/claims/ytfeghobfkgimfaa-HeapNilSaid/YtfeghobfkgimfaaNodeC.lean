/- (*room).node at a Con. -/
import Derived.Test.YtfeghobfkgimfaaNodeB
namespace Go.Proofs.Ytfeghobfkgimfaa
open Go.RowKit

/-- What the first statement of node leaves: n's box, the result's box, the copy of the args. -/
def NodeMid (k : Int) (L : Nat) (xs : List Int) (w : World) (s5 : Value) (wc : World) : Prop :=
  ∃ nb A' c', s5 = .pointer (some ⟨nb, 0, none⟩) ∧ Blk wc nb 54 #[.int .i64 k, .int .i64 0, .slice A' L c'] ∧ Blk wc w.heap.size 54 #[.int .i64 0, .int .i64 0, .slice none 0 0] ∧ w.heap.size < nb ∧
    wc.ownsRow w.heap.size 3 1 (.slice A' L c') L (xs.map (Value.int .i64)) ∧ Below w.heap.size w wc

theorem mid1 {k : Int} {L : Nat} {xs : List Int} {w w1 : World} {A' : Option Addr} {c' : Nat} {o : Obj} {q : Nat} (hob : o = .cells #[.int .i64 0, .int .i64 0, .slice none 0 0] 54)
    (hown : w1.ownsRow ((w.alloc o).drewN q).heap.size 3 1 (.slice A' L c') L (xs.map (Value.int .i64))) (hb : Below ((w.alloc o).drewN q).heap.size ((w.alloc o).drewN q) w1) :
    NodeMid k L xs w (.pointer (some ⟨w1.heap.size, 0, none⟩)) (w1.alloc (.cells #[.int .i64 k, .int .i64 0, .slice A' L c'] 54)) := by
  subst hob
  have hz := hb.size
  simp only [size_drewN, World.size_alloc] at hz hown hb
  refine ⟨w1.heap.size, A', c', rfl, Blk.new _ _ _, ((Blk.new w 54 _).drewN q).below hb (by omega) |>.alloc _, by omega, own_base (hown.alloc _) (by omega), ?_⟩
  exact ((below_drewN ((Below.refl w.heap.size w).alloc (Nat.le_refl _) _) q).trans (hb.mono (by omega))).alloc (by omega) _

theorem mid2 {k : Int} {L : Nat} {xs : List Int} {w w1 : World} {A' : Option Addr} {c' : Nat} {o : Obj} {q : Nat} (hob : o = .cells #[.int .i64 0, .int .i64 0, .slice none 0 0] 54)
    (hown : w1.ownsRow (((w.alloc o).alloc o).drewN q).heap.size 3 1 (.slice A' L c') L (xs.map (Value.int .i64))) (hb : Below (((w.alloc o).alloc o).drewN q).heap.size (((w.alloc o).alloc o).drewN q) w1) :
    NodeMid k L xs w (.pointer (some ⟨w.heap.size + 1, 0, none⟩)) (((w1.setCell ⟨w.heap.size + 1, 0, none⟩ (.int .i64 k)).setCell ⟨w.heap.size + 1, 1, none⟩ (.int .i64 0)).setCell ⟨w.heap.size + 1, 2, none⟩ (.slice A' L c')) := by
  subst hob
  have hz := hb.size
  simp only [size_drewN, World.size_alloc] at hz hown hb
  have hB : Blk w1 (w.heap.size + 1) 54 #[.int .i64 0, .int .i64 0, .slice none 0 0] := by
    have h := (Blk.new (w.alloc (.cells #[.int .i64 0, .int .i64 0, .slice none 0 0] 54)) 54 #[.int .i64 0, .int .i64 0, .slice none 0 0]).drewN q
    rw [World.size_alloc] at h
    exact h.below hb (by omega)
  have hR : Blk w1 w.heap.size 54 #[.int .i64 0, .int .i64 0, .slice none 0 0] := (((Blk.new w 54 _).alloc _).drewN q).below hb (by omega)
  refine ⟨w.heap.size + 1, A', c', rfl, ((hB.set_ 0 _).set_ 1 _).set_ 2 _, ((hR.far (by omega) _).far (by omega) _).far (by omega) _, by omega, own_base (own_set (own_set (own_set hown (by omega) _) (by omega) _) (by omega) _) (by omega), ?_⟩
  exact below_set (below_set (below_set ((below_drewN (((Below.refl w.heap.size w).alloc (Nat.le_refl _) _).alloc (by simp) _) q).trans (hb.mono (by omega))) (by omega) _) (by omega) _) (by omega) _

set_option maxRecDepth 100000 in
set_option maxHeartbeats 1000000 in
theorem node_con (b ro cb off n p L : Nat) (m : Int) (xs : List Int) (w : World) (hn : n ≤ 1048576) (hp : p + (3 + L) ≤ n) (hL : L = xs.length) (lb : b < w.heap.size) (lc : cb < w.heap.size)
    (c0 : w.cell? ⟨b, ro, none⟩ = some (.slice (some ⟨cb, off, none⟩) n n)) (e0 : w.cell? ⟨cb, off + p, none⟩ = some (.int .i64 4))
    (e1 : w.cell? ⟨cb, off + p + 1, none⟩ = some (.int .i64 m)) (e2 : w.cell? ⟨cb, off + p + 2, none⟩ = some (.int .i64 L)) (ex : ∀ j (h : j < xs.length), w.cell? ⟨cb, off + p + 3 + j, none⟩ = some (.int .i64 xs[j])) :
    Calls Try.prog 61 #[.pointer (some ⟨b, ro, none⟩), .int .i64 p] w (NodePost 4 m L xs w) := by
  have k58 : ∀ W : World, W.cell? ⟨b, ro, none⟩ = some (.slice (some ⟨cb, off, none⟩) n n) → W.cell? ⟨cb, off + p, none⟩ = some (.int .i64 4) → W.cell? ⟨cb, off + p + 2, none⟩ = some (.int .i64 L) → Calls Try.prog 58 #[.pointer (some ⟨b, ro, none⟩), .int .i64 p] W fun e w' => (∃ o, e = .returned (.slice (some ⟨cb, o, none⟩) L L) ∧ (0 < L → o = off + p + 3)) ∧ ∃ q, w' = W.drewN q :=
    fun W q1 q2 q3 => args_con b ro cb off n p L W (by omega) (by omega) q1 q2 q3
  have k86 : ∀ (W : World) (o : Nat), (0 < L → o = off + p + 3) → (∀ k i, k < w.heap.size → W.cell? ⟨k, i, none⟩ = w.cell? ⟨k, i, none⟩) → Calls Try.prog 86 #[.slice (some ⟨cb, o, none⟩) L L] W fun e w' => ∃ v', e = .returned v' ∧ w'.ownsRow W.heap.size 3 1 v' L (xs.map (Value.int .i64)) ∧ Below W.heap.size W w' :=
    fun W o ho hw => clone_some cb o L L xs W hL (by omega) (fun j hj => by rw [hw _ _ lc, ho (by omega)]; exact ex j hj)
  have EX := Lib.hid ex; clear ex
  have HL := Lib.hid hL; clear hL
  have K58 := Lib.hid k58; clear k58
  have K86 := Lib.hid k86; clear k86
  have i1 : (p : Int) < (n : Int) := by omega
  have i2 : (0 : Int) ≤ (p : Int) := by omega
  have i3 : (p : Int) + 1 < (n : Int) := by omega
  have e1' : w.cell? ⟨cb, off + (p + 1), none⟩ = some (.int .i64 m) := e1
  have nb0 : w.heap.size ≠ b := by omega
  have nb1 : w.heap.size + 1 ≠ b := by omega
  have nc0 : w.heap.size ≠ cb := by omega
  have nc1 : w.heap.size + 1 ≠ cb := by omega
  go_enter Try.func61, Try.ntmps61
  go_upto_region 1 with fail
  go_cut [5] (fun s5 wc => NodeMid 4 L xs w s5 wc)
  case first =>
    go_region_held3 (fun W => W.cell? ⟨b, ro, none⟩ = some (.slice (some ⟨cb, off, none⟩) n n) ∧ W.cell? ⟨cb, off + p, none⟩ = some (.int .i64 4) ∧ W.cell? ⟨cb, off + p + 2, none⟩ = some (.int .i64 L)) (first | exact ⟨s1, s2, s3⟩ | go_keep) (first | (go_at_call 58; refine (K58.out _ (by go_simp) (by go_simp) (by go_simp)).mono ?_; rintro e w1 ⟨⟨o, rfl, ho⟩, q, rfl⟩; have HO58 := Lib.hid ho; clear ho) | (go_at_call 86; refine (K86.out _ _ HO58.out (fun k i hk => by first | exact cell_old1 hk | exact cell_old2 hk)).mono ?_; rintro e w1 ⟨v', rfl, hown, hb⟩; obtain ⟨A', c', rfl⟩ := own_slice hown; obtain ⟨hc1, hf1⟩ := bcell hb; have hz1 := hb.size; simp only [World.size_alloc, World.size_drew, size_drewN] at hz1; have q1 : w1.heap.size ≠ b := (by omega); have q2 : w1.heap.size ≠ cb := (by omega); have s1 : w1.cell? ⟨b, ro, none⟩ = some (.slice (some ⟨cb, off, none⟩) n n) := (hb.cell (p := ⟨b, ro, none⟩) (by simp only [World.size_alloc, World.size_drew, size_drewN]; omega)).trans (by go_simp); have s2 : w1.cell? ⟨cb, off + p, none⟩ = some (.int .i64 4) := (hb.cell (p := ⟨cb, off + p, none⟩) (by simp only [World.size_alloc, World.size_drew, size_drewN]; omega)).trans (by go_simp); have s3 : w1.cell? ⟨cb, off + p + 2, none⟩ = some (.int .i64 L) := (hb.cell (p := ⟨cb, off + p + 2, none⟩) (by simp only [World.size_alloc, World.size_drew, size_drewN]; omega)).trans (by go_simp)))
    all_goals have HB := Lib.hid hb
    all_goals have HO := Lib.hid hown
    all_goals clear hb hown
    all_goals go_wp2_with fail
    all_goals go_meet
    · exact mid1 rfl HO.out HB.out
    · exact mid2 rfl HO.out HB.out
    · exact mid2 rfl HO.out HB.out
  case rest =>
    obtain ⟨nb, A', c', rfl, hN, hR, hlt, hown, hbel⟩ := hcut
    have a0 := hN.cell 0; have a1 := hN.cell 1; have a2 := hN.cell 2; have af := hN.frozen
    have r0 := hR.cell 0; have r1 := hR.cell 1; have r2 := hR.cell 2; have rf := hR.frozen
    have x0 : wc.cell? ⟨b, ro, none⟩ = some (.slice (some ⟨cb, off, none⟩) n n) := (hbel.cell (p := ⟨b, ro, none⟩) lb).trans c0
    have x1 : wc.cell? ⟨cb, off + (p + 1), none⟩ = some (.int .i64 m) := (hbel.cell (p := ⟨cb, off + (p + 1), none⟩) lc).trans e1
    have nnr : w.heap.size ≠ nb := by omega
    have nnr' : nb ≠ w.heap.size := by omega
    simp at a0 a1 a2 r0 r1 r2
    have HN := Lib.hid hN; have HR := Lib.hid hR; have HO := Lib.hid hown; have HB := Lib.hid hbel
    clear hN hR hown hbel
    go_wp2_with fail
    refine bodyPost_ret (v := .agg #[.int .i64 4, .int .i64 m, .slice A' L c']) (by simp [results, Try.results61, go_sem, r0, r1, r2]) rfl ⟨_, rfl, ?_, ?_⟩
    · have n1 := own_blk_ne HO.out HN.out (by decide)
      have n2 := own_blk_ne HO.out HR.out (by decide)
      exact own_far (own_far (own_far (own_far HO.out n1 _) n2 _) n2 _) n2 _
    · exact below_set (below_set (below_set (below_set HB.out (by omega) _) (Nat.le_refl _) _) (Nat.le_refl _) _) (Nat.le_refl _) _
end Go.Proofs.Ytfeghobfkgimfaa
