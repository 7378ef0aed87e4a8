/- heap.New: an empty heap of a size that may be. -/
import Derived.Test.YtfeghobfkgimfaaForward
namespace Go.Proofs.Ytfeghobfkgimfaa
open Go.RowKit

/-- A heap of the call's own, in blocks from B on. -/
def HNew (n B : Nat) (w : World) (e : Ending) (w' : World) : Prop :=
  ∃ b cb gb, e = .returned (.tuple #[.pointer (some ⟨b, 0, none⟩), .int .i64 0]) ∧ B ≤ b ∧ B ≤ cb ∧ B ≤ gb ∧ Below B w w' ∧
    HRows w' w' b cb gb (2 * n) (topV cb gb n 0 0 0 n 0 0) (fun _ => 0) (fun _ => false)

theorem HNew.drew {n B : Nat} {w : World} {e : Ending} {w' : World} (h : HNew n B w e w') : HNew n B w e w'.drew := by
  obtain ⟨b, cb, gb, he, h1, h2, h3, h4, h5⟩ := h
  exact ⟨b, cb, gb, he, h1, h2, h3, h4.drew, ⟨h5.rb, h5.rc, h5.rg, Turns.refl _ _⟩⟩

theorem top_row (w : World) (cb gb n : Nat) :
    (w.alloc (.cells #[.slice (some ⟨cb, 0, none⟩) n n, .slice (some ⟨gb, 0, none⟩) n n, .int .i64 0, .int .i64 0, .slice (some ⟨cb, n, none⟩) n n, .slice (some ⟨gb, n, none⟩) n n, .int .i64 0, .int .i64 0, .int .i64 n] 79)).rowIs w.heap.size 79 9 (topV cb gb n 0 0 0 n 0 0) :=
  World.rowIs_alloc w _ 79 _ (fun i hi => by
    match i, hi with
    | 0, _ | 1, _ | 2, _ | 3, _ | 4, _ | 5, _ | 6, _ | 7, _ | 8, _ => rfl)

theorem new_fin1 (n : Nat) (w : World) : HNew n w.heap.size w (.returned (.tuple #[.pointer (some ⟨w.heap.size + 1 + 1, 0, none⟩), .int .i64 0]))
    (((w.alloc (.cells (madeCells #[.int .i64 0] (2 * n)) 3)).alloc (.cells (madeCells #[.bool false] (2 * n)) 4)).alloc (.cells #[.slice (some ⟨w.heap.size, 0, none⟩) n n, .slice (some ⟨w.heap.size + 1, 0, none⟩) n n, .int .i64 0, .int .i64 0, .slice (some ⟨w.heap.size, n, none⟩) n n, .slice (some ⟨w.heap.size + 1, n, none⟩) n n, .int .i64 0, .int .i64 0, .int .i64 n] 79)) := by
  refine ⟨w.heap.size + 1 + 1, w.heap.size, w.heap.size + 1, rfl, by omega, by omega, by omega, (((Below.refl _ _).alloc (Nat.le_refl _) _).alloc (by simp) _).alloc (by simp; omega) _, ?_, ?_, ?_, Turns.refl _ _⟩
  · have h := top_row ((w.alloc (.cells (madeCells #[.int .i64 0] (2 * n)) 3)).alloc (.cells (madeCells #[.bool false] (2 * n)) 4)) w.heap.size (w.heap.size + 1) n
    simp only [World.size_alloc] at h
    exact h
  · exact ((World.rowIs_made w (.int .i64 0) (2 * n) 3).alloc _).alloc _
  · have h := World.rowIs_made (w.alloc (.cells (madeCells #[.int .i64 0] (2 * n)) 3)) (.bool false) (2 * n) 4
    simp only [World.size_alloc] at h
    exact h.alloc _

theorem new_fin2 (n : Nat) (w : World) : HNew n w.heap.size w (.returned (.tuple #[.pointer (some ⟨w.heap.size + 1 + 1, 0, none⟩), .int .i64 0]))
    (((w.alloc (.cells (madeCells #[.bool false] (2 * n)) 4)).alloc (.cells (madeCells #[.int .i64 0] (2 * n)) 3)).alloc (.cells #[.slice (some ⟨w.heap.size + 1, 0, none⟩) n n, .slice (some ⟨w.heap.size, 0, none⟩) n n, .int .i64 0, .int .i64 0, .slice (some ⟨w.heap.size + 1, n, none⟩) n n, .slice (some ⟨w.heap.size, n, none⟩) n n, .int .i64 0, .int .i64 0, .int .i64 n] 79)) := by
  refine ⟨w.heap.size + 1 + 1, w.heap.size + 1, w.heap.size, rfl, by omega, by omega, by omega, (((Below.refl _ _).alloc (Nat.le_refl _) _).alloc (by simp) _).alloc (by simp; omega) _, ?_, ?_, ?_, Turns.refl _ _⟩
  · have h := top_row ((w.alloc (.cells (madeCells #[.bool false] (2 * n)) 4)).alloc (.cells (madeCells #[.int .i64 0] (2 * n)) 3)) (w.heap.size + 1) w.heap.size n
    simp only [World.size_alloc] at h
    exact h
  · have h := World.rowIs_made (w.alloc (.cells (madeCells #[.bool false] (2 * n)) 4)) (.int .i64 0) (2 * n) 3
    simp only [World.size_alloc] at h
    exact h.alloc _
  · exact ((World.rowIs_made w (.bool false) (2 * n) 4).alloc _).alloc _

set_option maxRecDepth 100000 in
set_option maxHeartbeats 1000000 in
theorem new_any (n : Nat) (w : World) (hn0 : 1 ≤ n) (hn : n ≤ 1048576) :
    Calls Try.prog 17 #[.int .i64 n] w (HNew n w.heap.size w) := by
  have m3 := fun W => run_make_row' (P := Try.prog) 22 3 (.int .i64 0) 8 Try.underlying22 Try.info3 rfl .i64 .i64 (2 * n) (by omega) (by omega) W
  have m4 := fun W => run_make_row' (P := Try.prog) 75 4 (.bool false) 1 Try.underlying75 Try.info4 rfl .i64 .i64 (2 * n) (by omega) (by omega) W
  have e2 : ((2 * n : Nat) : Int) = 2 * (n : Int) := by omega
  rw [e2] at m3 m4
  clear e2
  have h1 : decide ((n : Int) < 1) = false := decide_eq_false (by omega)
  have h2 : decide ((1048576 : Int) < (n : Int)) = false := decide_eq_false (by omega)
  have b1 : (n : Int) ≤ ((2 * n : Nat) : Int) := by omega
  have b2 : ¬ 2 * n = n := by omega
  have b3 : 2 * n - n = n := by omega
  go_enter Try.func17, Try.ntmps17
  go_wp2_with fail
  go_region
  all_goals go_wp2_with fail
  all_goals go_region
  all_goals go_wp2_with fail
  all_goals go_ret2
  · exact (new_fin1 n w).drew.drew
  · exact (new_fin2 n w).drew.drew
end Go.Proofs.Ytfeghobfkgimfaa
