/- (*room).node at a Call and at a Con: the args are a copy in memory of the call's own. -/
import Derived.Test.YtfeghobfkgimfaaNode
namespace Go.Proofs.Ytfeghobfkgimfaa
open Go.RowKit

theorem below_new1 {w w1 : World} (o : Obj) (h : Below (w.alloc o).drew.heap.size (w.alloc o).drew w1) : Below w.heap.size w w1 :=
  ((Below.refl w.heap.size w).alloc (Nat.le_refl _) o).drew.trans (h.mono (by simp only [World.size_alloc, World.size_drew]; omega))
theorem below_new2 {w w1 : World} (o q : Obj) (h : Below ((w.alloc o).alloc q).drew.heap.size ((w.alloc o).alloc q).drew w1) : Below w.heap.size w w1 :=
  (((Below.refl w.heap.size w).alloc (Nat.le_refl _) o).alloc (by simp) q).drew.trans (h.mono (by simp only [World.size_alloc, World.size_drew]; omega))

def NodePost (k m : Int) (n : Nat) (xs : List Int) (w : World) (e : Ending) (w' : World) : Prop :=
  ∃ v', e = .returned (.agg #[.int .i64 k, .int .i64 m, v']) ∧ w'.ownsRow w.heap.size 3 1 v' n (xs.map (Value.int .i64)) ∧ Below w.heap.size w w'

set_option maxRecDepth 100000 in
set_option maxHeartbeats 1000000 in
theorem node_call (b ro cb off n p : Nat) (x y : Int) (w : World) (hn : n ≤ 1048576) (hp : p + 3 ≤ n) (lb : b < w.heap.size) (lc : cb < w.heap.size)
    (c0 : w.cell? ⟨b, ro, none⟩ = some (.slice (some ⟨cb, off, none⟩) n n)) (e0 : w.cell? ⟨cb, off + p, none⟩ = some (.int .i64 2))
    (e1 : w.cell? ⟨cb, off + p + 1, none⟩ = some (.int .i64 x)) (e2 : w.cell? ⟨cb, off + p + 2, none⟩ = some (.int .i64 y)) :
    Calls Try.prog 61 #[.pointer (some ⟨b, ro, none⟩), .int .i64 p] w (NodePost 2 0 2 [x, y] w) := by
  have k58 : ∀ W : World, W.cell? ⟨b, ro, none⟩ = some (.slice (some ⟨cb, off, none⟩) n n) → W.cell? ⟨cb, off + p, none⟩ = some (.int .i64 2) → Calls Try.prog 58 #[.pointer (some ⟨b, ro, none⟩), .int .i64 p] W fun e w' => e = .returned (.slice (some ⟨cb, off + p + 1, none⟩) 2 2) ∧ W = w' :=
    fun W q1 q2 => args_call b ro cb off n p W (by omega) (by omega) q1 q2
  have k86 : ∀ W : World, W.cell? ⟨cb, off + p + 1, none⟩ = some (.int .i64 x) → W.cell? ⟨cb, off + p + 2, none⟩ = some (.int .i64 y) → Calls Try.prog 86 #[.slice (some ⟨cb, off + p + 1, none⟩) 2 2] W fun e w' => ∃ v', e = .returned v' ∧ w'.ownsRow W.heap.size 3 1 v' 2 ([x, y].map (Value.int .i64)) ∧ Below W.heap.size W w' :=
    fun W q1 q2 => clone_some cb (off + p + 1) 2 2 [x, y] W rfl (by omega) (fun j hj => by
      match j, hj with
      | 0, _ => exact q1
      | 1, _ => exact q2)
  have K58 := Lib.hid k58; clear k58
  have K86 := Lib.hid k86; clear k86
  have i1 : (p : Int) < (n : Int) := by omega
  have i2 : (0 : Int) ≤ (p : Int) := by omega
  have nb0 : w.heap.size ≠ b := by omega
  have nb1 : w.heap.size + 1 ≠ b := by omega
  have nc0 : w.heap.size ≠ cb := by omega
  have nc1 : w.heap.size + 1 ≠ cb := by omega
  go_enter Try.func61, Try.ntmps61
  go_wp2_with fail
  go_region_held3 (fun W => W.cell? ⟨b, ro, none⟩ = some (.slice (some ⟨cb, off, none⟩) n n) ∧ W.cell? ⟨cb, off + p, none⟩ = some (.int .i64 2)) (first | exact ⟨s1, s2⟩ | go_keep) (first | (go_at_call 58; refine (K58.out _ ?_ ?_).mono ?_; go_simp; go_simp; rintro e w1 ⟨rfl, rfl⟩) | (go_at_call 86; refine (K86.out _ (by go_simp) (by go_simp)).mono ?_; rintro e w1 ⟨v', rfl, hown, hb⟩; obtain ⟨A', c', rfl⟩ := own_slice hown; have hz1 := hb.size; simp only [World.size_alloc, World.size_drew] at hz1; have hz2 : w.heap.size < w1.heap.size := (by omega); have q1 : w1.heap.size ≠ b := (by omega); have q2 : w1.heap.size ≠ cb := (by omega); obtain ⟨hc1, hf1⟩ := bcell hb; have r0 : w1.cell? ⟨w.heap.size, 0, none⟩ = some (.int .i64 0) := (hb.cell (p := ⟨w.heap.size, 0, none⟩) (by simp only [World.size_alloc, World.size_drew]; omega)).trans (by go_simp); have r1 : w1.cell? ⟨w.heap.size, 1, none⟩ = some (.int .i64 0) := (hb.cell (p := ⟨w.heap.size, 1, none⟩) (by simp only [World.size_alloc, World.size_drew]; omega)).trans (by go_simp); have r2 : w1.cell? ⟨w.heap.size, 2, none⟩ = some (.slice none 0 0) := (hb.cell (p := ⟨w.heap.size, 2, none⟩) (by simp only [World.size_alloc, World.size_drew]; omega)).trans (by go_simp); have rf : ∀ i, w1.frozen? ⟨w.heap.size, i, none⟩ = false := (fun i => (hb.frozen (p := ⟨w.heap.size, i, none⟩) (by simp only [World.size_alloc, World.size_drew]; omega)).trans (by go_simp)); have s1 : w1.cell? ⟨b, ro, none⟩ = some (.slice (some ⟨cb, off, none⟩) n n) := (hb.cell (p := ⟨b, ro, none⟩) (by first | (simp only [World.size_alloc, World.size_drew]; omega) | (simp; done) | (simp; omega))).trans (by go_simp); have s2 : w1.cell? ⟨cb, off + p, none⟩ = some (.int .i64 2) := (hb.cell (p := ⟨cb, off + p, none⟩) (by first | (simp only [World.size_alloc, World.size_drew]; omega) | (simp; done) | (simp; omega))).trans (by go_simp)))
  all_goals have HB := Lib.hid hb
  all_goals have HO := Lib.hid hown
  all_goals clear hb hown
  all_goals go_wp2_with fail
  all_goals refine bodyPost_ret (v := .agg #[.int .i64 2, .int .i64 0, .slice A' 2 c']) (by simp [results, Try.results61, go_sem, hc1, r0, r1, r2, hz2]) rfl ⟨_, rfl, ?_, ?_⟩
  · exact own_base (World.ownsRow.alloc (own_set (own_set (own_set HO.out (by simp) _) (by simp) _) (by simp) _) _) (by simp)
  · exact Below.alloc (below_set (below_set (below_set (below_new1 _ HB.out) (Nat.le_refl _) _) (Nat.le_refl _) _) (Nat.le_refl _) _) (by simp [World.setCell]; omega) _
  · exact own_base (own_set (own_set (own_set (own_set (own_set (own_set HO.out (by simp) _) (by simp) _) (by simp) _) (by simp only [World.size_alloc, World.size_drew]; omega) _) (by simp only [World.size_alloc, World.size_drew]; omega) _) (by simp only [World.size_alloc, World.size_drew]; omega) _) (by simp only [World.size_alloc, World.size_drew]; omega)
  · exact below_set (below_set (below_set (below_set (below_set (below_set (below_new2 _ _ HB.out) (by omega) _) (by omega) _) (by omega) _) (Nat.le_refl _) _) (Nat.le_refl _) _) (Nat.le_refl _) _
  · exact own_base (own_set (own_set (own_set (own_set (own_set (own_set HO.out (by simp) _) (by simp) _) (by simp) _) (by simp only [World.size_alloc, World.size_drew]; omega) _) (by simp only [World.size_alloc, World.size_drew]; omega) _) (by simp only [World.size_alloc, World.size_drew]; omega) _) (by simp only [World.size_alloc, World.size_drew]; omega)
  · exact below_set (below_set (below_set (below_set (below_set (below_set (below_new2 _ _ HB.out) (by omega) _) (by omega) _) (by omega) _) (Nat.le_refl _) _) (Nat.le_refl _) _) (Nat.le_refl _) _
end Go.Proofs.Ytfeghobfkgimfaa
