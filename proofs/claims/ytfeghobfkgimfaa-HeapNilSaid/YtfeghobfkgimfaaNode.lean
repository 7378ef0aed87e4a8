/- (*room).node: the node at a place; its args are a copy. -/
import Derived.Test.YtfeghobfkgimfaaArgs
import Derived.Test.YtfeghobfkgimfaaClone
namespace Go.Proofs.Ytfeghobfkgimfaa
open Go.RowKit

set_option maxRecDepth 100000 in
set_option maxHeartbeats 1000000 in
theorem node_other (b ro cb off n p : Nat) (k m : Int) (w : World) (hn : n ≤ 1048576) (hp : p + 2 ≤ n) (h1 : k ≠ 1) (h3 : k ≠ 3) (h2 : k ≠ 2) (h4 : k ≠ 4) (h5 : k ≠ 5) (lb : b < w.heap.size) (lc : cb < w.heap.size)
    (c0 : w.cell? ⟨b, ro, none⟩ = some (.slice (some ⟨cb, off, none⟩) n n)) (e0 : w.cell? ⟨cb, off + p, none⟩ = some (.int .i64 k)) (e1 : w.cell? ⟨cb, off + p + 1, none⟩ = some (.int .i64 m)) :
    Calls Try.prog 61 #[.pointer (some ⟨b, ro, none⟩), .int .i64 p] w fun e w' => e = .returned (.agg #[.int .i64 k, .int .i64 0, .slice none 0 0]) ∧ Below w.heap.size w w' := by
  have k58 : ∀ W : World, W.cell? ⟨b, ro, none⟩ = some (.slice (some ⟨cb, off, none⟩) n n) → W.cell? ⟨cb, off + p, none⟩ = some (.int .i64 k) → Calls Try.prog 58 #[.pointer (some ⟨b, ro, none⟩), .int .i64 p] W fun e w' => e = .returned (.slice none 0 0) ∧ W = w' :=
    fun W q1 q2 => args_plain b ro cb off n p k W (by omega) (by omega) h2 h4 h5 q1 q2
  have K58 := Lib.hid k58; clear k58
  have i1 : (p : Int) < (n : Int) := by omega
  have i2 : (0 : Int) ≤ (p : Int) := by omega
  have i3 : (p : Int) + 1 < (n : Int) := by omega
  have e2 : w.cell? ⟨cb, off + (p + 1), none⟩ = some (.int .i64 m) := e1
  have b1 : (k == 1) = false := by simpa using h1
  have b3 : (k == 3) = false := by simpa using h3
  have b4 : (k == 4) = false := by simpa using h4
  clear h1 h2 h3 h4 h5
  go_enter Try.func61, Try.ntmps61
  go_wp2_with fail
  go_region_held3 (fun W => W.cell? ⟨b, ro, none⟩ = some (.slice (some ⟨cb, off, none⟩) n n) ∧ W.cell? ⟨cb, off + p, none⟩ = some (.int .i64 k)) (go_keep) (first | (go_at_call 58; refine (K58.out _ ?_ ?_).mono ?_; go_simp; go_simp; rintro e w1 ⟨rfl, rfl⟩) | (go_at_call 86; refine (clone_nil _).mono ?_; rintro e w1 ⟨rfl, rfl⟩))
  all_goals go_wp2_with fail
  all_goals refine bodyPost_ret (v := .agg #[.int .i64 k, .int .i64 0, .slice none 0 0]) (by simp [results, Try.results61, go_sem]) rfl ⟨rfl, ?_⟩
  all_goals exact (((Below.refl _ _).alloc (Nat.le_refl _) _).alloc (by simp) _).drew

set_option maxRecDepth 100000 in
set_option maxHeartbeats 1000000 in
theorem node_num (b ro cb off n p : Nat) (m : Int) (w : World) (hn : n ≤ 1048576) (hp : p + 2 ≤ n) (lb : b < w.heap.size) (lc : cb < w.heap.size)
    (c0 : w.cell? ⟨b, ro, none⟩ = some (.slice (some ⟨cb, off, none⟩) n n)) (e0 : w.cell? ⟨cb, off + p, none⟩ = some (.int .i64 1)) (e1 : w.cell? ⟨cb, off + p + 1, none⟩ = some (.int .i64 m)) :
    Calls Try.prog 61 #[.pointer (some ⟨b, ro, none⟩), .int .i64 p] w fun e w' => e = .returned (.agg #[.int .i64 1, .int .i64 m, .slice none 0 0]) ∧ Below w.heap.size w w' := by
  have k58 : ∀ W : World, W.cell? ⟨b, ro, none⟩ = some (.slice (some ⟨cb, off, none⟩) n n) → W.cell? ⟨cb, off + p, none⟩ = some (.int .i64 1) → Calls Try.prog 58 #[.pointer (some ⟨b, ro, none⟩), .int .i64 p] W fun e w' => e = .returned (.slice none 0 0) ∧ W = w' :=
    fun W q1 q2 => args_plain b ro cb off n p 1 W (by omega) (by omega) (by decide) (by decide) (by decide) q1 q2
  have K58 := Lib.hid k58; clear k58
  have i1 : (p : Int) < (n : Int) := by omega
  have i2 : (0 : Int) ≤ (p : Int) := by omega
  have i3 : (p : Int) + 1 < (n : Int) := by omega
  have e2 : w.cell? ⟨cb, off + (p + 1), none⟩ = some (.int .i64 m) := e1
  go_enter Try.func61, Try.ntmps61
  go_wp2_with fail
  go_region_held3 (fun W => W.cell? ⟨b, ro, none⟩ = some (.slice (some ⟨cb, off, none⟩) n n) ∧ W.cell? ⟨cb, off + p, none⟩ = some (.int .i64 1)) (go_keep) (first | (go_at_call 58; refine (K58.out _ ?_ ?_).mono ?_; go_simp; go_simp; rintro e w1 ⟨rfl, rfl⟩) | (go_at_call 86; refine (clone_nil _).mono ?_; rintro e w1 ⟨rfl, rfl⟩))
  all_goals go_wp2_with fail
  all_goals refine bodyPost_ret (v := .agg #[.int .i64 1, .int .i64 m, .slice none 0 0]) (by simp [results, Try.results61, go_sem]) rfl ⟨rfl, ?_⟩
  all_goals exact (((Below.refl _ _).alloc (Nat.le_refl _) _).alloc (by simp) _).drew

set_option maxRecDepth 100000 in
set_option maxHeartbeats 1000000 in
theorem node_global (b ro cb off n p : Nat) (m : Int) (w : World) (hn : n ≤ 1048576) (hp : p + 2 ≤ n) (lb : b < w.heap.size) (lc : cb < w.heap.size)
    (c0 : w.cell? ⟨b, ro, none⟩ = some (.slice (some ⟨cb, off, none⟩) n n)) (e0 : w.cell? ⟨cb, off + p, none⟩ = some (.int .i64 3)) (e1 : w.cell? ⟨cb, off + p + 1, none⟩ = some (.int .i64 m)) :
    Calls Try.prog 61 #[.pointer (some ⟨b, ro, none⟩), .int .i64 p] w fun e w' => e = .returned (.agg #[.int .i64 3, .int .i64 m, .slice none 0 0]) ∧ Below w.heap.size w w' := by
  have k58 : ∀ W : World, W.cell? ⟨b, ro, none⟩ = some (.slice (some ⟨cb, off, none⟩) n n) → W.cell? ⟨cb, off + p, none⟩ = some (.int .i64 3) → Calls Try.prog 58 #[.pointer (some ⟨b, ro, none⟩), .int .i64 p] W fun e w' => e = .returned (.slice none 0 0) ∧ W = w' :=
    fun W q1 q2 => args_plain b ro cb off n p 3 W (by omega) (by omega) (by decide) (by decide) (by decide) q1 q2
  have K58 := Lib.hid k58; clear k58
  have i1 : (p : Int) < (n : Int) := by omega
  have i2 : (0 : Int) ≤ (p : Int) := by omega
  have i3 : (p : Int) + 1 < (n : Int) := by omega
  have e2 : w.cell? ⟨cb, off + (p + 1), none⟩ = some (.int .i64 m) := e1
  go_enter Try.func61, Try.ntmps61
  go_wp2_with fail
  go_region_held3 (fun W => W.cell? ⟨b, ro, none⟩ = some (.slice (some ⟨cb, off, none⟩) n n) ∧ W.cell? ⟨cb, off + p, none⟩ = some (.int .i64 3)) (go_keep) (first | (go_at_call 58; refine (K58.out _ ?_ ?_).mono ?_; go_simp; go_simp; rintro e w1 ⟨rfl, rfl⟩) | (go_at_call 86; refine (clone_nil _).mono ?_; rintro e w1 ⟨rfl, rfl⟩))
  all_goals go_wp2_with fail
  all_goals refine bodyPost_ret (v := .agg #[.int .i64 3, .int .i64 m, .slice none 0 0]) (by simp [results, Try.results61, go_sem]) rfl ⟨rfl, ?_⟩
  all_goals exact (((Below.refl _ _).alloc (Nat.le_refl _) _).alloc (by simp) _).drew

end Go.Proofs.Ytfeghobfkgimfaa
