/- (*room).lay: a node is laid behind the others, whatever its kind; the frame: the heap's three blocks alone. -/
import Derived.Test.YtfeghobfkgimfaaHeapKit
import Derived.Test.YtfeghobfkgimfaaCellsC
namespace Go.Proofs.Ytfeghobfkgimfaa
open Go.RowKit

theorem ret_nat' {a b : Nat} (h : a = b) : Ending.returned (.int .i64 (a : Int)) = Ending.returned (.int .i64 (b : Int)) := by rw [h]

set_option maxRecDepth 100000 in
set_option maxHeartbeats 1000000 in
theorem lay_plain (w0 : World) (b ro cb gb off n N u c : Nat) (top : Nat → Value) (C : Nat → Int) (G : Nat → Bool) (k m : Int) (A : Option Addr) (a cap : Nat) (w : World)
    (hro : ro ≤ 4) (hN : off + n ≤ N) (hNb : N ≤ 2097152) (hu : u + 2 ≤ n) (hc : c ≤ 2097152) (hk2 : k ≠ 2) (hk4 : k ≠ 4)
    (hr : HRows w0 w b cb gb N top C G) (t0 : top ro = .slice (some ⟨cb, off, none⟩) n n) (t1 : top (ro + 1) = .slice (some ⟨gb, off, none⟩) n n) (t2 : top (ro + 2) = .int .i64 u) (t3 : top (ro + 3) = .int .i64 c)
    (ha : a ≤ 9223372036854775000) (hcells : cellsF k m a = 2) :
    Calls Try.prog 54 #[.pointer (some ⟨b, ro, none⟩), .agg #[.int .i64 k, .int .i64 m, .slice A a cap]] w fun e w' => e = .returned (.int .i64 u) ∧
      HRows w0 w' b cb gb N (upd (upd top (ro + 2) (.int .i64 ((u + 2 : Nat) : Int))) (ro + 3) (.int .i64 ((c + 1 : Nat) : Int))) (wr C (off + u) [k, m]) (upd G (off + u) true) := by
  have c0 := hr.rb.cell (i := ro) (by omega); rw [t0] at c0
  have c1 := hr.rb.cell (i := ro + 1) (by omega); rw [t1] at c1
  have c2 := hr.rb.cell (i := ro + 2) (by omega); rw [t2] at c2
  have c3 := hr.rb.cell (i := ro + 3) (by omega); rw [t3] at c3
  have e0 := hr.rc.cell (i := off + u) (by omega)
  have e1 := hr.rc.cell (i := off + u + 1) (by omega)
  have g0 := hr.rg.cell (i := off + u) (by omega)
  have fb := hr.rb.frozen; have fc := hr.rc.frozen; have fg := hr.rg.frozen
  have lb := hr.rb.lt; have lc := hr.rc.lt; have lg := hr.rg.lt
  have nbc := hr.nbc; have nbg := hr.nbg; have ncg := hr.ncg
  have hk2' : (k == 2) = false := by simpa using hk2
  have hk4' : (k == 4) = false := by simpa using hk4
  have H := Lib.hid hcells; clear hcells
  have HR := Lib.hid hr; clear hr
  clear hk2 hk4 t0 t1 t2 t3
  go_enter Try.func54, Try.ntmps54
  go_wp2_with fail
  go_region
  go_wp2_with fail
  go_region_with (go_at_call 22; refine (cells_any _ _ _ _ _ (by omega) _).mono ?_; rintro e w1 ⟨rfl, rfl⟩; rw [H.out])
  go_wp2_with fail
  all_goals go_ret
  all_goals
    have eu : ((u + 2 : Nat) : Int) = (u : Int) + 2 := by omega
    have ec : ((c + 1 : Nat) : Int) = (c : Int) + 1 := by omega
    have ew : wr C (off + u) [k, m] = upd (upd C (off + u) k) (off + u + 1) m := by
      rw [show [k, m] = ([] ++ [k]) ++ [m] from rfl, wr_snoc, wr_snoc, wr_nil]; rfl
    rw [eu, ec, ew]
    exact ⟨rfl, (((((((((HR.out.setC (off + u) k).setC (off + u + 1) m).setG (off + u) true).setB (ro + 2) (.int .i64 ((u : Int) + 2))).setB (ro + 3) (.int .i64 ((c : Int) + 1))).alloc _).alloc _).drew).drew)⟩

set_option maxRecDepth 100000 in
set_option maxHeartbeats 1000000 in
theorem lay_call (w0 : World) (b ro cb gb off n N u c : Nat) (top : Nat → Value) (C : Nat → Int) (G : Nat → Bool) (m : Int) (ab ao cap : Nat) (x y : Int) (w : World)
    (hro : ro ≤ 4) (hN : off + n ≤ N) (hNb : N ≤ 2097152) (hu : u + 3 ≤ n) (hc : c ≤ 2097152) (ham : m = 0)
    (nab : ab ≠ b) (nac : ab ≠ cb) (nag : ab ≠ gb) (hab : ab < w.heap.size) (hx : w.cell? ⟨ab, ao, none⟩ = some (.int .i64 x)) (hy : w.cell? ⟨ab, ao + 1, none⟩ = some (.int .i64 y))
    (hr : HRows w0 w b cb gb N top C G) (t0 : top ro = .slice (some ⟨cb, off, none⟩) n n) (t1 : top (ro + 1) = .slice (some ⟨gb, off, none⟩) n n) (t2 : top (ro + 2) = .int .i64 u) (t3 : top (ro + 3) = .int .i64 c) :
    Calls Try.prog 54 #[.pointer (some ⟨b, ro, none⟩), .agg #[.int .i64 2, .int .i64 m, .slice (some ⟨ab, ao, none⟩) 2 cap]] w fun e w' => e = .returned (.int .i64 u) ∧
      HRows w0 w' b cb gb N (upd (upd top (ro + 2) (.int .i64 ((u + 3 : Nat) : Int))) (ro + 3) (.int .i64 ((c + 1 : Nat) : Int))) (wr C (off + u) [2, x, y]) (upd G (off + u) true) := by
  subst ham
  have c0 := hr.rb.cell (i := ro) (by omega); rw [t0] at c0
  have c1 := hr.rb.cell (i := ro + 1) (by omega); rw [t1] at c1
  have c2 := hr.rb.cell (i := ro + 2) (by omega); rw [t2] at c2
  have c3 := hr.rb.cell (i := ro + 3) (by omega); rw [t3] at c3
  have e0 := hr.rc.cell (i := off + u) (by omega)
  have e1 := hr.rc.cell (i := off + u + 1) (by omega)
  have e2 := hr.rc.cell (i := off + u + 2) (by omega)
  have g0 := hr.rg.cell (i := off + u) (by omega)
  have fb := hr.rb.frozen; have fc := hr.rc.frozen; have fg := hr.rg.frozen
  have lb := hr.rb.lt; have lc := hr.rc.lt; have lg := hr.rg.lt
  have nbc := hr.nbc; have nbg := hr.nbg; have ncg := hr.ncg
  have HR := Lib.hid hr; clear hr
  clear t0 t1 t2 t3
  go_enter Try.func54, Try.ntmps54
  go_wp2_with fail
  go_region
  go_wp2_with fail
  go_region
  go_wp2_with fail
  go_region_with (go_at_call 22; refine (cells_any _ _ _ _ _ (by omega) _).mono ?_; rintro e w1 ⟨rfl, rfl⟩; rw [show cellsF 2 0 2 = 3 from rfl])
  go_wp2_with fail
  all_goals go_ret
  all_goals
    have eu : ((u + 3 : Nat) : Int) = (u : Int) + 3 := by omega
    have ec : ((c + 1 : Nat) : Int) = (c : Int) + 1 := by omega
    rw [eu, ec]
    refine ⟨rfl, HRows.congr (((((((((((((HR.out.setC (off + u) 2).setC (off + u + 1) 0).setC (off + u + 1) x).setC (off + u + 2) y).setG (off + u) true).setB (ro + 2) (.int .i64 ((u : Int) + 3))).setB (ro + 3) (.int .i64 ((c : Int) + 1))).alloc _).alloc _).drew).drew).drew)) (fun _ _ => rfl) (fun i _ => ?_) (fun _ _ => rfl)⟩
    have ew : wr C (off + u) [2, x, y] = upd (upd (upd C (off + u) 2) (off + u + 1) x) (off + u + 2) y := by
      rw [show [2, x, y] = (([] ++ [2]) ++ [x]) ++ [y] from rfl, wr_snoc, wr_snoc, wr_snoc, wr_nil]; rfl
    rw [ew]
    simp only [upd]
    by_cases h2 : i = off + u + 2
    · rw [if_pos h2, if_pos h2]
    · rw [if_neg h2, if_neg h2]
      by_cases h1 : i = off + u + 1
      · rw [if_pos h1, if_pos h1]
      · rw [if_neg h1, if_neg h1, if_neg h1]
end Go.Proofs.Ytfeghobfkgimfaa
