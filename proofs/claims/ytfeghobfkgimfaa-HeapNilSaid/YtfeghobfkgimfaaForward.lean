/- (*Heap).forward: where a node was moved to; a node that was not is laid in the other room, its place marked. -/
import Derived.Test.YtfeghobfkgimfaaHeapU
import Derived.Test.YtfeghobfkgimfaaLook
namespace Go.Proofs.Ytfeghobfkgimfaa
open Go.RowKit

section
variable {w0 w : World} {b cb gb n o1 u1 c1 o2 u2 c2 : Nat} {C : Nat → Int} {G : Nat → Bool}
theorem HRows.t0 (h : HRows w0 w b cb gb (2 * n) (topV cb gb n o1 u1 c1 o2 u2 c2) C G) : w.cell? ⟨b, 0, none⟩ = some (.slice (some ⟨cb, o1, none⟩) n n) := h.rb.cell (i := 0) (by omega)
theorem HRows.t1 (h : HRows w0 w b cb gb (2 * n) (topV cb gb n o1 u1 c1 o2 u2 c2) C G) : w.cell? ⟨b, 1, none⟩ = some (.slice (some ⟨gb, o1, none⟩) n n) := h.rb.cell (i := 1) (by omega)
theorem HRows.t2 (h : HRows w0 w b cb gb (2 * n) (topV cb gb n o1 u1 c1 o2 u2 c2) C G) : w.cell? ⟨b, 2, none⟩ = some (.int .i64 u1) := h.rb.cell (i := 2) (by omega)
theorem HRows.t3 (h : HRows w0 w b cb gb (2 * n) (topV cb gb n o1 u1 c1 o2 u2 c2) C G) : w.cell? ⟨b, 3, none⟩ = some (.int .i64 c1) := h.rb.cell (i := 3) (by omega)
theorem HRows.t4 (h : HRows w0 w b cb gb (2 * n) (topV cb gb n o1 u1 c1 o2 u2 c2) C G) : w.cell? ⟨b, 4, none⟩ = some (.slice (some ⟨cb, o2, none⟩) n n) := h.rb.cell (i := 4) (by omega)
theorem HRows.t5 (h : HRows w0 w b cb gb (2 * n) (topV cb gb n o1 u1 c1 o2 u2 c2) C G) : w.cell? ⟨b, 5, none⟩ = some (.slice (some ⟨gb, o2, none⟩) n n) := h.rb.cell (i := 5) (by omega)
theorem HRows.t6 (h : HRows w0 w b cb gb (2 * n) (topV cb gb n o1 u1 c1 o2 u2 c2) C G) : w.cell? ⟨b, 6, none⟩ = some (.int .i64 u2) := h.rb.cell (i := 6) (by omega)
theorem HRows.t7 (h : HRows w0 w b cb gb (2 * n) (topV cb gb n o1 u1 c1 o2 u2 c2) C G) : w.cell? ⟨b, 7, none⟩ = some (.int .i64 c2) := h.rb.cell (i := 7) (by omega)
theorem HRows.t8 (h : HRows w0 w b cb gb (2 * n) (topV cb gb n o1 u1 c1 o2 u2 c2) C G) : w.cell? ⟨b, 8, none⟩ = some (.int .i64 n) := h.rb.cell (i := 8) (by omega)
end

set_option maxRecDepth 100000 in
set_option maxHeartbeats 1000000 in
theorem forward_moved (w0 w : World) (b cb gb n o1 u1 c1 o2 u2 c2 p t k : Nat) (C : Nat → Int) (G : Nat → Bool) (q : Int) (hn : n ≤ 1048576) (ho : o1 + n ≤ 2 * n)
    (hr : HRows w0 w b cb gb (2 * n) (topV cb gb n o1 u1 c1 o2 u2 c2) C G) (hch : Chain C o1 n p t k) (ht : t + 1 < n) (h7 : C (o1 + t) = 7) (hq : C (o1 + (t + 1)) = q) :
    Calls Try.prog 57 #[.pointer (some ⟨b, 0, none⟩), .int .i64 p] w fun e w' => e = .returned (.int .i64 q) ∧ w = w' := by
  have c0 := hr.t0
  have hl := look_any b 0 cb o1 n C p t k hn w c0 (fun i hi => hr.rc.cell (by omega)) hch
  have e0 := hr.rc.cell (i := o1 + t) (by omega); rw [h7] at e0
  have e1 := hr.rc.cell (i := o1 + (t + 1)) (by omega); rw [hq] at e1
  have HL := Lib.hid hl; clear hl
  clear hr hch h7 hq
  go_enter Try.func57, Try.ntmps57
  go_wp2_with (go_at_call 63; refine HL.out.mono ?_; rintro e w1 ⟨rfl, rfl⟩)
  go_ret
  exact ⟨rfl, rfl⟩

set_option maxRecDepth 100000 in
set_option maxHeartbeats 1000000 in
theorem forward_new (w0 w : World) (b cb gb n o1 u1 c1 o2 u2 c2 p t k : Nat) (C : Nat → Int) (G : Nat → Bool) (kd m : Int) (xs : List Int) (hn : n ≤ 1048576) (ho1 : o1 + n ≤ 2 * n) (ho2 : o2 + n ≤ 2 * n) (hc2 : c2 ≤ 2097152)
    (hr : HRows w0 w b cb gb (2 * n) (topV cb gb n o1 u1 c1 o2 u2 c2) C G) (hch : Chain C o1 n p t k) (hN : NodeAt C (o1 + t) kd m xs) (ht : t + (enc kd m xs).length ≤ n) (hu : u2 + (enc kd m xs).length ≤ n) (h7 : C (o1 + t) ≠ 7) :
    Calls Try.prog 57 #[.pointer (some ⟨b, 0, none⟩), .int .i64 p] w fun e w' => e = .returned (.int .i64 u2) ∧
      HRows w0 w' b cb gb (2 * n) (topV cb gb n o1 u1 c1 o2 (u2 + (enc kd m xs).length) (c2 + 1)) (upd (upd (wr C (o2 + u2) (enc kd m xs)) (o1 + t) 7) (o1 + (t + 1)) u2) (upd G (o2 + u2) true) := by
  have hpos := enc_pos hN.1
  have c0 := hr.t0
  have hl := look_any b 0 cb o1 n C p t k hn w c0 (fun i hi => hr.rc.cell (by omega)) hch
  have e0 := hr.rc.cell (i := o1 + t) (by omega)
  have b7 : (C (o1 + t) == 7) = false := by simpa using h7
  have hnode' : Calls Try.prog 61 #[.pointer (some ⟨b, 0, none⟩), .int .i64 t] w.drew (NodeV kd m xs w.drew) :=
    node_any b 0 cb o1 n t kd m xs C w.drew hn ht hr.rb.lt hr.rc.lt c0 (fun i hi => hr.rc.cell (by omega)) hN
  have hlay : ∀ (w1 : World) (A : Option Addr) (cap : Nat), IntSl (fun g => g < w.drew.heap.size) w1 A cap xs → Below w.drew.heap.size w.drew w1 → Calls Try.prog 54 #[.pointer (some ⟨b, 4, none⟩), .agg #[.int .i64 kd, .int .i64 m, .slice A xs.length cap]] w1 fun e w' => e = .returned (.int .i64 u2) ∧
      HRows w0 w' b cb gb (2 * n) (topV cb gb n o1 u1 c1 o2 (u2 + (enc kd m xs).length) (c2 + 1)) (wr C (o2 + u2) (enc kd m xs)) (upd G (o2 + u2) true) := fun w1 A cap hi hb => by
    have hr1 : HRows w0 w1 b cb gb (2 * n) (topV cb gb n o1 u1 c1 o2 u2 c2) C G := hr.drew.below hb
    have hi1 : IntSl (In3 b cb gb) w1 A cap xs := ⟨hi.1, fun h0 => by
      obtain ⟨g, o, rfl, hg, hs, hx⟩ := hi.2 h0
      have l1 := hr.rb.lt; have l2 := hr.rc.lt; have l3 := hr.rg.lt
      simp only [World.size_drew] at hs
      exact ⟨g, o, rfl, hg, by rintro (e | e | e) <;> omega, hx⟩⟩
    refine (lay_any w0 b 4 cb gb o2 n (2 * n) u2 c2 _ C G kd m A cap xs w1 (by omega) ho2 (by omega) hu hc2 hN.1 hi1 hr1 rfl rfl rfl rfl).mono ?_
    rintro e w' ⟨rfl, h⟩
    exact ⟨rfl, h.congr (fun i _ => topV_other i) (fun _ _ => rfl) (fun _ _ => rfl)⟩
  have HL := Lib.hid hl; have HLay := Lib.hid hlay; have HNode := Lib.hid hnode'; clear hl hlay hnode'
  obtain ⟨L, hL⟩ : ∃ L, L = (enc kd m xs).length := ⟨_, rfl⟩
  rw [← hL] at ht hu hpos
  have HLen := Lib.hid hL; clear hL
  clear hr hch h7 hN
  go_enter Try.func57, Try.ntmps57
  go_wp2_with (go_at_call 63; refine HL.out.mono ?_; rintro e w1 ⟨rfl, rfl⟩)
  go_cut [5] (fun s5 wc => s5 = .int .i64 u2 ∧ HRows w0 wc b cb gb (2 * n) (topV cb gb n o1 u1 c1 o2 (u2 + L) (c2 + 1)) (wr C (o2 + u2) (enc kd m xs)) (upd G (o2 + u2) true))
  case first =>
    go_region_with (first | (go_at_call 61; refine HNode.out.mono ?_; rintro e w1 ⟨A, cap, rfl, hi, hb⟩; have HI := Lib.hid hi; have HB := Lib.hid hb; clear hi hb) | (go_at_call 54; refine (HLay.out _ _ _ HI.out HB.out).mono ?_; rintro e w2 ⟨rfl, hr2⟩; rw [← HLen.out] at hr2; have HR2 := Lib.hid hr2; clear hr2))
    go_wp2_with fail
    go_meet
    exact ⟨rfl, HR2.out⟩
  case rest =>
    obtain ⟨rfl, hr2⟩ := hcut
    have c0 := hr2.t0
    have e0 := hr2.rc.cell (i := o1 + t) (by omega)
    have e1 := hr2.rc.cell (i := o1 + (t + 1)) (by omega)
    have fc := hr2.rc.frozen
    have HR2 := Lib.hid hr2; clear hr2
    go_wp2_with fail
    go_region
    go_wp2_with fail
    all_goals go_ret
    exact ⟨rfl, by rw [← HLen.out]; exact ((HR2.out.setC (o1 + t) 7).setC (o1 + (t + 1)) u2).drew⟩
end Go.Proofs.Ytfeghobfkgimfaa
