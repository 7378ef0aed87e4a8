/- (*Heap).Stand at two places where nodes begin. -/
import Derived.Test.YtfeghobfkgimfaaLookGet
import Derived.Test.YtfeghobfkgimfaaRoomB
import Derived.Deep.QuietTactic
import Derived.BigQuiet
namespace Go.Proofs.Ytfeghobfkgimfaa
open Go.RowKit Go.Shelf

section
variable (w0 w : World) (b cb gb n o1 u1 c1 o2 u2 c2 : Nat) (C : Nat → Int) (G : Nat → Bool)

set_option maxRecDepth 100000 in
set_option maxHeartbeats 1000000 in
theorem standclo (p q a t k k' : Nat) (g1 g2 g3 : Nat) (hn : n ≤ 1048576) (hr : HRows w0 w b cb gb (2 * n) (topV cb gb n o1 u1 c1 o2 u2 c2) C G) (ho1 : o1 + n ≤ 2 * n) (hp : Chain C o1 n p a k) (hq : Chain C o1 n q t k') (ha : a + 1 < n)
    (h1 : Blk w g1 50 #[.pointer (some ⟨b, 0, none⟩)]) (h2 : Blk w g2 3 #[.int .i64 p]) (h3 : Blk w g3 3 #[.int .i64 q]) :
    Calls Try.prog 65 #[.pointer (some ⟨g1, 0, none⟩), .pointer (some ⟨g2, 0, none⟩), .pointer (some ⟨g3, 0, none⟩)] w fun e w' => e = .returned (.tuple #[]) ∧
      (a = t → HRows w0 w' b cb gb (2 * n) (topV cb gb n o1 u1 c1 o2 u2 c2) C G) ∧ (a ≠ t → HRows w0 w' b cb gb (2 * n) (topV cb gb n o1 u1 c1 o2 u2 c2) (upd (upd C (o1 + a) 5) (o1 + (a + 1)) t) G) := by
  have hl := fun x => look_any b 0 cb o1 n C p a k hn (w.drewN x) hr.t0 (fun i hi => hr.rc.cell (by omega)) hp |>.mono (R' := fun e w' => e = .returned (.int .i64 a) ∧ w' = w.drewN x) (fun e w' h => ⟨h.1, h.2.symm⟩)
  have hl2 := fun x => look_any b 0 cb o1 n C q t k' hn (w.drewN x) hr.t0 (fun i hi => hr.rc.cell (by omega)) hq |>.mono (R' := fun e w' => e = .returned (.int .i64 t) ∧ w' = w.drewN x) (fun e w' h => ⟨h.1, h.2.symm⟩)
  have HL := Lib.hid hl; have HL2 := Lib.hid hl2
  have a1 := h1.cell 0; have a2 := h2.cell 0; have a3 := h3.cell 0
  simp at a1 a2 a3
  have t0 := hr.t0
  have e1 := hr.rc.cell (i := o1 + a) (by omega); have e2 := hr.rc.cell (i := o1 + (a + 1)) (by omega)
  have f1 := hr.rc.frozen (o1 + a); have f2 := hr.rc.frozen (o1 + (a + 1))
  have HR := Lib.hid hr
  clear hl hl2 hr hp hq h1 h2 h3
  go_enter Try.func65, Try.ntmps65
  go_wp2_with fail
  go_quiet ((go_at_call 63; first | (with_reducible exact Calls.quiet_of_same (HL.out _)) | (with_reducible exact Calls.quiet_of_same (HL2.out _))))
  by_cases hat : a = t
  · have hb : ((a : Int) != (t : Int)) = false := by simp [hat]
    have HAT := Lib.hid hat; clear hat
    go_wp2_with fail
    go_end0
    exact ⟨rfl, fun _ => HR.out.drewN _, fun h => absurd HAT.out h⟩
  · have hb : ((a : Int) != (t : Int)) = true := by simp; omega
    have HAT := Lib.hid hat; clear hat
    go_wp2_with fail
    go_region
    go_wp2_with fail
    go_end0
    exact ⟨rfl, fun h => absurd h HAT.out, fun _ => ((HR.out.drewN _).setC _ _).setC _ _⟩

set_option maxHeartbeats 400000 in
theorem emptyclo : Calls Try.prog 64 #[] w fun e w' => e = .returned (.tuple #[]) ∧ w = w' := by
  go_enter Try.func64, Try.ntmps64
  go_wp2_with fail
  go_end0
  exact ⟨rfl, rfl⟩

set_option maxRecDepth 100000 in
set_option maxHeartbeats 400000 in
theorem stand_ok (p q a t k k' : Nat) (hn0 : 1 ≤ n) (hn : n ≤ 1048576) (hu : u1 ≤ n) (hr : HRows w0 w b cb gb (2 * n) (topV cb gb n o1 u1 c1 o2 u2 c2) C G) (ho1 : o1 + n ≤ 2 * n) (hpu : p < u1) (hGp : G (o1 + p) = true) (hqu : q < u1) (hGq : G (o1 + q) = true)
    (hp : Chain C o1 n p a k) (hq : Chain C o1 n q t k') (ha : a + 1 < n) :
    Calls Try.prog 30 #[.pointer (some ⟨b, 0, none⟩), .int .i64 p, .int .i64 q] w fun e w' => e = .returned (.int .i64 0) ∧
      (a = t → HRows w0 w' b cb gb (2 * n) (topV cb gb n o1 u1 c1 o2 u2 c2) C G) ∧ (a ≠ t → HRows w0 w' b cb gb (2 * n) (topV cb gb n o1 u1 c1 o2 u2 c2) (upd (upd C (o1 + a) 5) (o1 + (a + 1)) t) G) := by
  obtain ⟨W, hW⟩ : ∃ W, W = ((w.alloc (.cells #[.pointer (some ⟨b, 0, none⟩)] 50)).alloc (.cells #[.int .i64 p] 3)).alloc (.cells #[.int .i64 q] 3) := ⟨_, rfl⟩
  have hrW : HRows w0 W b cb gb (2 * n) (topV cb gb n o1 u1 c1 o2 u2 c2) C G := by rw [hW]; exact hr.below (below3 _ _ _)
  have hask1 : Calls Try.prog 59 #[.pointer (some ⟨b, 0, none⟩), .int .i64 p, .func (.func 64) #[] #[]] W fun e w' => e = .returned (.int .i64 0) ∧ W = w' :=
    ask_any w0 _ b cb gb n o1 u1 c1 o2 u2 c2 C G p 64 _ (fun w' => W = w') hn0 hn hu hrW ho1 hpu hGp (enters_of Try.func64 (by kernel_rfl) rfl) (emptyclo W)
  have hask2 := ask_any w0 W b cb gb n o1 u1 c1 o2 u2 c2 C G q 65 #[.pointer (some ⟨w.heap.size, 0, none⟩), .pointer (some ⟨w.heap.size + 1, 0, none⟩), .pointer (some ⟨w.heap.size + 1 + 1, 0, none⟩)] _ hn0 hn hu hrW ho1 hqu hGq (enters_of Try.func65 (by kernel_rfl) rfl)
    (by
      refine standclo w0 W b cb gb n o1 u1 c1 o2 u2 c2 C G p q a t k k' _ _ _ hn hrW ho1 hp hq ha ?_ ?_ ?_
      · rw [hW]; exact ((Blk.new _ _ _).alloc _).alloc _
      · rw [hW]
        have h := (Blk.new (w.alloc (.cells #[.pointer (some ⟨b, 0, none⟩)] 50)) 3 #[.int .i64 p]).alloc (.cells #[.int .i64 q] 3)
        simp only [World.size_alloc] at h; exact h
      · rw [hW]
        have h := (Blk.new ((w.alloc (.cells #[.pointer (some ⟨b, 0, none⟩)] 50)).alloc (.cells #[.int .i64 p] 3)) 3 #[.int .i64 q])
        simp only [World.size_alloc] at h; exact h)
  have p0 : W.cell? ⟨w.heap.size, 0, none⟩ = some (.pointer (some ⟨b, 0, none⟩)) := by rw [hW]; go_simp
  have p1 : W.cell? ⟨w.heap.size + 1, 0, none⟩ = some (.int .i64 p) := by rw [hW]; go_simp
  have p2 : W.cell? ⟨w.heap.size + 1 + 1, 0, none⟩ = some (.int .i64 q) := by rw [hW]; go_simp
  have H1 := Lib.hid hask1; have H2 := Lib.hid hask2
  clear hask1 hask2 hr hrW hGp hGq hp hq
  go_enter Try.func30, Try.ntmps30
  go_upto_region 1 with fail
  rw [← hW]
  clear hW
  go_wp2_with (first | (go_at_call 59; with_reducible refine H1.out.mono ?_; rintro e w1 ⟨rfl, rfl⟩) | (go_at_call 59; with_reducible refine H2.out.mono ?_; rintro e w1 ⟨rfl, hx⟩; have HX := Lib.hid hx; clear hx))
  go_ret
  exact ⟨rfl, HX.out⟩
end
end Go.Proofs.Ytfeghobfkgimfaa
