/- (*room).lay at a Con: its args copied behind the head. -/
import Derived.Test.YtfeghobfkgimfaaHeapKit
import Derived.Test.YtfeghobfkgimfaaCellsC
namespace Go.Proofs.Ytfeghobfkgimfaa
open Go.RowKit

theorem con_after {w0 w w2 : World} {b cb gb N p L3 : Nat} {top : Nat → Value} {C : Nat → Int} {G : Nat → Bool} (hr : HRows w0 w b cb gb N top C G) (k m L : Int) (xs : List Int) (v0 v1 v2 : Value)
    (hr2 : w2.rowIs cb 3 N (fun i => .int .i64 (wr (upd (upd (upd C p k) (p + 1) m) (p + 2) L) L3 xs i)))
    (ht2 : Turns (fun x => x = cb) ((((w.setCell ⟨cb, p, none⟩ (.int .i64 k)).setCell ⟨cb, p + 1, none⟩ (.int .i64 m)).setCell ⟨cb, p + 2, none⟩ (.int .i64 L)).alloc (.cells #[v0, v1, v2] 54)).drew.drew w2)
    (hs2 : w2.heap.size = ((((w.setCell ⟨cb, p, none⟩ (.int .i64 k)).setCell ⟨cb, p + 1, none⟩ (.int .i64 m)).setCell ⟨cb, p + 2, none⟩ (.int .i64 L)).alloc (.cells #[v0, v1, v2] 54)).drew.drew.heap.size) :
    HRows w0 w2 b cb gb N top (wr (upd (upd (upd C p k) (p + 1) m) (p + 2) L) L3 xs) G ∧ w2.heap.size = w.heap.size + 1 ∧
      w2.cell? ⟨w.heap.size, 0, none⟩ = some v0 ∧ w2.cell? ⟨w.heap.size, 1, none⟩ = some v1 ∧ w2.cell? ⟨w.heap.size, 2, none⟩ = some v2 := by
  have h1 := (((((hr.setC p k).setC (p + 1) m).setC (p + 2) L).alloc (.cells #[v0, v1, v2] 54)).drew).drew
  have hsz : w2.heap.size = w.heap.size + 1 := by rw [hs2]; simp [World.setCell]
  have hlt := hr.rc.lt
  have hne : w.heap.size ≠ cb := by omega
  have hc : ∀ i, w2.cell? ⟨w.heap.size, i, none⟩ = #[v0, v1, v2][i]? := by
    intro i
    rw [ht2.cell (p := ⟨w.heap.size, i, none⟩) (by simp [World.setCell]) hne]
    have hs3 : (((w.setCell ⟨cb, p, none⟩ (.int .i64 k)).setCell ⟨cb, p + 1, none⟩ (.int .i64 m)).setCell ⟨cb, p + 2, none⟩ (.int .i64 L)).heap.size = w.heap.size := by simp [World.setCell]
    have := cell_of_row ((((w.setCell ⟨cb, p, none⟩ (.int .i64 k)).setCell ⟨cb, p + 1, none⟩ (.int .i64 m)).setCell ⟨cb, p + 2, none⟩ (.int .i64 L)).alloc (.cells #[v0, v1, v2] 54)) w.heap.size i #[v0, v1, v2] 54 (0, 0) (by rw [← hs3]; exact heap_alloc_new _ _)
    exact this
  exact ⟨⟨ht2.row h1.rb hr.nbc, hr2, ht2.row h1.rg hr.ncg.symm, h1.tu.trans (ht2.mono (fun _ e => .inr (.inl e)))⟩, hsz, hc 0, hc 1, hc 2⟩

theorem con_src {w0 w : World} {b cb gb N p L n u off : Nat} {top : Nat → Value} {C : Nat → Int} {G : Nat → Bool} {A : Option Addr} {xs : List Int} (hr : HRows w0 w b cb gb N top C G) (k m l : Int) (o : Obj)
    (hA : 0 < xs.length → ∃ ab ao, A = some ⟨ab, ao, none⟩ ∧ ab < w.heap.size ∧ ab ≠ b ∧ ab ≠ cb ∧ ab ≠ gb ∧ ∀ j (h : j < xs.length), w.cell? ⟨ab, ao + j, none⟩ = some (.int .i64 xs[j]))
    (hp : p = off + u) (hL : L = xs.length) (hu : u + (3 + L) ≤ n) (h0 : 0 < xs.length) :
    (if n - u = 3 then some (⟨cb, off + u, none⟩ : Addr) else some ⟨cb, off + u + 3, none⟩) = some ⟨cb, off + u + 3, none⟩ ∧ ∃ ad, A = some ad ∧ ∀ j (h : j < xs.length),
      ((((w.setCell ⟨cb, p, none⟩ (.int .i64 k)).setCell ⟨cb, p + 1, none⟩ (.int .i64 m)).setCell ⟨cb, p + 2, none⟩ (.int .i64 l)).alloc o).drew.drew.cell? (ad.add j) = some (.int .i64 xs[j]) := by
  obtain ⟨ab, ao, rfl, h1, h2, h3, h4, h5⟩ := hA h0
  refine ⟨if_neg (by omega), _, rfl, fun j hj => ?_⟩
  have ht := (((((hr.start.setC p k).setC (p + 1) m).setC (p + 2) l).alloc o).drew).drew.tu
  have hadd : (⟨ab, ao, none⟩ : Addr).add j = ⟨ab, ao + j, none⟩ := by unfold Addr.add; split <;> simp_all
  rw [hadd, ht.cell (p := ⟨ab, ao + j, none⟩) h1 (by rintro (e | e | e) <;> simp_all)]
  exact h5 j hj

set_option maxRecDepth 100000 in
set_option maxHeartbeats 1000000 in
theorem lay_con (w0 : World) (b ro cb gb off n N u c : Nat) (top : Nat → Value) (C : Nat → Int) (G : Nat → Bool) (m : Int) (A : Option Addr) (cap : Nat) (xs : List Int) (w : World)
    (hro : ro ≤ 4) (hN : off + n ≤ N) (hNb : N ≤ 2097152) (hu : u + (3 + xs.length) ≤ n) (hc : c ≤ 2097152) (hm0 : 0 ≤ m) (hm1 : m ≤ 255) (hxs : xs.length ≤ 255) (hcap : xs.length ≤ cap)
    (hA : 0 < xs.length → ∃ ab ao, A = some ⟨ab, ao, none⟩ ∧ ab < w.heap.size ∧ ab ≠ b ∧ ab ≠ cb ∧ ab ≠ gb ∧ ∀ j (h : j < xs.length), w.cell? ⟨ab, ao + j, none⟩ = some (.int .i64 xs[j]))
    (hr : HRows w0 w b cb gb N top C G) (t0 : top ro = .slice (some ⟨cb, off, none⟩) n n) (t1 : top (ro + 1) = .slice (some ⟨gb, off, none⟩) n n) (t2 : top (ro + 2) = .int .i64 u) (t3 : top (ro + 3) = .int .i64 c) :
    Calls Try.prog 54 #[.pointer (some ⟨b, ro, none⟩), .agg #[.int .i64 4, .int .i64 m, .slice A xs.length cap]] w fun e w' => e = .returned (.int .i64 u) ∧
      HRows w0 w' b cb gb N (upd (upd top (ro + 2) (.int .i64 ((u + (3 + xs.length) : Nat) : Int))) (ro + 3) (.int .i64 ((c + 1 : Nat) : Int))) (wr C (off + u) (4 :: m :: (xs.length : Int) :: xs)) (upd G (off + u) true) := by
  have c0 := hr.rb.cell (i := ro) (by omega); rw [t0] at c0
  have c1 := hr.rb.cell (i := ro + 1) (by omega); rw [t1] at c1
  have c2 := hr.rb.cell (i := ro + 2) (by omega); rw [t2] at c2
  have c3 := hr.rb.cell (i := ro + 3) (by omega); rw [t3] at c3
  have e0 := hr.rc.cell (i := off + u) (by omega)
  have e1 := hr.rc.cell (i := off + u + 1) (by omega)
  have e2 := hr.rc.cell (i := off + u + 2) (by omega)
  have g0 := hr.rg.cell (i := off + u) (by omega)
  have fb := hr.rb.frozen; have fc := hr.rc.frozen; have fg := hr.rg.frozen
  have lb := hr.rb.lt; have lc := hr.rc.lt; have lg := hr.rg.lt
  have nbc := hr.nbc; have nbg := hr.nbg; have ncg := hr.ncg
  have hcells : cellsF 4 m xs.length = 3 + xs.length := by rw [cellsF_con, if_pos (by omega)]
  have H := Lib.hid hcells; clear hcells
  have h3 : (3 : Int) ≤ ((n - u : Nat) : Int) := by omega
  have HR := Lib.hid hr; clear hr
  have HA := Lib.hid hA; clear hA
  obtain ⟨L, hL⟩ : ∃ L, L = xs.length := ⟨_, rfl⟩
  rw [← hL] at hu hxs hcap H ⊢
  have HL := Lib.hid hL; clear hL
  have T0 := Lib.hid t0; have T1 := Lib.hid t1; have T2 := Lib.hid t2; have T3 := Lib.hid t3
  clear t0 t1 t2 t3
  go_enter Try.func54, Try.ntmps54
  go_wp2_with fail
  go_region
  go_wp2_with fail
  have hrow : ∀ o, ((((w.setCell ⟨cb, off + u, none⟩ (.int .i64 4)).setCell ⟨cb, off + u + 1, none⟩ (.int .i64 m)).setCell ⟨cb, off + u + 2, none⟩ (.int .i64 L)).alloc o).rowIs cb 3 N (fun i => .int .i64 (upd (upd (upd C (off + u) 4) (off + u + 1) m) (off + u + 2) L i)) :=
    fun o => ((((HR.out.setC (off + u) 4).setC (off + u + 1) m).setC (off + u + 2) L).alloc o).rc
  have HROW := Lib.hid hrow; clear hrow
  have hlen : xs.length = Nat.min L (n - u - 3) := by have := HL.out; simp only [Nat.min_def]; split <;> omega
  have HLEN := Lib.hid hlen; clear hlen
  go_region_law (refine step_copy_row rfl (.tmp 49) (.tmp 51) 22 22 rfl 3 Try.underlying22 (by kernel_rfl) (if n - u = 3 then some ⟨cb, off + u, none⟩ else some ⟨cb, off + u + 3, none⟩) A (n - u - 3) (n - u - 3) L cap (by simp [Act.eval]) (by simp [Act.eval]) cb (off + u + 3) N 3 _ (row_drew (row_drew (HROW.out _))) xs HLEN.out (fun h0 => con_src HR.out 4 m L _ HA.out rfl HL.out hu h0) (by have := HL.out; omega) ?_; intro w2 hr2 ht2 hs2)
  generalize (if n - u = 3 then some (⟨cb, off + u, none⟩ : Addr) else some ⟨cb, off + u + 3, none⟩) = dp
  obtain ⟨hr2, hs2, n0, n1, n2⟩ := con_after HR.out 4 m L xs _ _ _ hr2 ht2 hs2
  clear ht2 c0 c1 c2 c3 e0 e1 e2 g0 fb fc fg
  have c0 := hr2.rb.cell (i := ro) (by omega); rw [T0.out] at c0
  have c1 := hr2.rb.cell (i := ro + 1) (by omega); rw [T1.out] at c1
  have c2 := hr2.rb.cell (i := ro + 2) (by omega); rw [T2.out] at c2
  have c3 := hr2.rb.cell (i := ro + 3) (by omega); rw [T3.out] at c3
  have g0 := hr2.rg.cell (i := off + u) (by omega)
  have fb := hr2.rb.frozen; have fg := hr2.rg.frozen
  have HR2 := Lib.hid hr2; clear hr2
  have lb2 : b < w2.heap.size := by omega
  have lg2 : gb < w2.heap.size := by omega
  go_wp2_with fail
  go_region_with (go_at_call 22; refine (cells_any _ _ _ _ _ (by omega) _).mono ?_; rintro e w1 ⟨rfl, rfl⟩; rw [H.out])
  go_wp2_with fail
  all_goals go_ret
  all_goals
    have eu : ((u + (3 + L) : Nat) : Int) = (u : Int) + (3 + (L : Int)) := by omega
    have ec : ((c + 1 : Nat) : Int) = (c : Int) + 1 := by omega
    have ew : wr C (off + u) (4 :: m :: (L : Int) :: xs) = wr (upd (upd (upd C (off + u) 4) (off + u + 1) m) (off + u + 2) L) (off + u + 3) xs := by
      rw [show 4 :: m :: (L : Int) :: xs = (([] ++ [4]) ++ [m]) ++ [(L : Int)] ++ xs from rfl, wr_append, wr_snoc, wr_snoc, wr_snoc, wr_nil]; rfl
    rw [eu, ec, ew]
    exact ⟨rfl, (((((HR2.out.setG (off + u) true).setB (ro + 2) (.int .i64 ((u : Int) + (3 + (L : Int))))).setB (ro + 3) (.int .i64 ((c : Int) + 1))).alloc _).drew)⟩
end Go.Proofs.Ytfeghobfkgimfaa
