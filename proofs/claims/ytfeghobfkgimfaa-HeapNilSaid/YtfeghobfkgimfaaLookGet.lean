/- (*Heap).Look and Get at a place where a node begins. -/
import Derived.Test.YtfeghobfkgimfaaLooks
namespace Go.Proofs.Ytfeghobfkgimfaa
open Go.RowKit Go.Shelf

section
variable (w0 w : World) (b cb gb n o1 u1 c1 o2 u2 c2 : Nat) (C : Nat → Int) (G : Nat → Bool)

set_option maxRecDepth 100000 in
set_option maxHeartbeats 400000 in
theorem look_ok (p t k : Nat) (hn0 : 1 ≤ n) (hn : n ≤ 1048576) (hu : u1 ≤ n) (hr : HRows w0 w b cb gb (2 * n) (topV cb gb n o1 u1 c1 o2 u2 c2) C G) (ho1 : o1 + n ≤ 2 * n) (hp : p < u1) (hG : G (o1 + p) = true) (hch : Chain C o1 n p t k) :
    Calls Try.prog 29 #[.pointer (some ⟨b, 0, none⟩), .int .i64 p] w fun e w' => e = .returned (.tuple #[.int .i64 t, .int .i64 0]) ∧ Below w.heap.size w w' := by
  have hask : ∀ W : World, W = ((w.alloc (.cells #[.pointer (some ⟨b, 0, none⟩)] 50)).alloc (.cells #[.int .i64 p] 3)).alloc (.cells #[.int .i64 0] 3) →
      Calls Try.prog 59 #[.pointer (some ⟨b, 0, none⟩), .int .i64 p, .func (.func 62) #[] #[.pointer (some ⟨w.heap.size, 0, none⟩), .pointer (some ⟨w.heap.size + 1, 0, none⟩), .pointer (some ⟨w.heap.size + 1 + 1, 0, none⟩)]] W fun e w' => e = .returned (.int .i64 0) ∧ w' = (W.setCell ⟨w.heap.size + 1 + 1, 0, none⟩ (.int .i64 t)).drew := by
    rintro W rfl
    have hW := hr.below (below3 (.cells #[.pointer (some ⟨b, 0, none⟩)] 50) (.cells #[.int .i64 p] 3) (.cells #[.int .i64 0] 3))
    refine ask_any w0 _ b cb gb n o1 u1 c1 o2 u2 c2 C G p 62 _ (fun w' => w' = _) hn0 hn hu hW ho1 hp hG (enters_of Try.func62 (by kernel_rfl) rfl) ?_
    have B1 : Blk (((w.alloc (.cells #[.pointer (some ⟨b, 0, none⟩)] 50)).alloc (.cells #[.int .i64 p] 3)).alloc (.cells #[.int .i64 0] 3)) w.heap.size 50 #[.pointer (some ⟨b, 0, none⟩)] := ((Blk.new _ _ _).alloc _).alloc _
    have B2 : Blk (((w.alloc (.cells #[.pointer (some ⟨b, 0, none⟩)] 50)).alloc (.cells #[.int .i64 p] 3)).alloc (.cells #[.int .i64 0] 3)) (w.heap.size + 1) 3 #[.int .i64 p] := by
      have h := (Blk.new (w.alloc (.cells #[.pointer (some ⟨b, 0, none⟩)] 50)) 3 #[.int .i64 p]).alloc (.cells #[.int .i64 0] 3)
      simp only [World.size_alloc] at h; exact h
    have B3 : Blk (((w.alloc (.cells #[.pointer (some ⟨b, 0, none⟩)] 50)).alloc (.cells #[.int .i64 p] 3)).alloc (.cells #[.int .i64 0] 3)) (w.heap.size + 1 + 1) 3 #[.int .i64 0] := by
      have h := (Blk.new ((w.alloc (.cells #[.pointer (some ⟨b, 0, none⟩)] 50)).alloc (.cells #[.int .i64 p] 3)) 3 #[.int .i64 0])
      simp only [World.size_alloc] at h; exact h
    exact lookclo w0 _ b cb gb n o1 u1 c1 o2 u2 c2 C G p t k _ _ _ _ rfl hn hW ho1 hch B1 B2 B3
  have HA := Lib.hid hask; clear hask hr hch hG
  go_enter Try.func29, Try.ntmps29
  go_wp2_with (go_at_call 59; refine (HA.out _ rfl).mono ?_; rintro e w1 ⟨rfl, rfl⟩)
  refine bodyPost_ret (v := .tuple #[.int .i64 t, .int .i64 0]) (by simp [results, Try.results29, go_sem]) rfl ⟨rfl, ?_⟩
  exact (below3 _ _ _).drew

theorem getclo_post {kd m : Int} {xs : List Int} {g3 : Nat} {W w1 : World} {A : Option Addr} {cap : Nat} (h3 : Blk W g3 54 #[.int .i64 0, .int .i64 0, .slice none 0 0])
    (hi : IntSl (fun g => g < W.drew.heap.size) w1 A cap xs) (hb : Below W.drew.heap.size W.drew w1) :
    Blk (((w1.setCell ⟨g3, 0, none⟩ (.int .i64 kd)).setCell ⟨g3, 1, none⟩ (.int .i64 m)).setCell ⟨g3, 2, none⟩ (.slice A xs.length cap)) g3 54 #[.int .i64 kd, .int .i64 m, .slice A xs.length cap] ∧
      IntSl (fun g => g < W.heap.size) (((w1.setCell ⟨g3, 0, none⟩ (.int .i64 kd)).setCell ⟨g3, 1, none⟩ (.int .i64 m)).setCell ⟨g3, 2, none⟩ (.slice A xs.length cap)) A cap xs ∧
      Turns (fun x => x = g3) W (((w1.setCell ⟨g3, 0, none⟩ (.int .i64 kd)).setCell ⟨g3, 1, none⟩ (.int .i64 m)).setCell ⟨g3, 2, none⟩ (.slice A xs.length cap)) := by
  have h3' : Blk w1 g3 54 #[.int .i64 0, .int .i64 0, .slice none 0 0] := (show Blk W.drew g3 54 _ from h3).below hb (by have := h3.lt; simpa using this)
  refine ⟨((h3'.set_ 0 _).set_ 1 _).set_ 2 _, ⟨hi.1, fun h0 => ?_⟩, turns_set (turns_set (turns_set ((Turns.refl (fun x => x = g3) W).drew.trans (Turns.of_below hb)) (by rfl) _) (by rfl) _) (by rfl) _⟩
  obtain ⟨g, o, hA, hg, hs, hx⟩ := hi.2 h0
  refine ⟨g, o, hA, by simpa [World.setCell] using hg, hs, fun j hj => ?_⟩
  have hlt := h3.lt
  have hne : g3 ≠ g := by intro e; subst e; exact hs hlt
  have hf : ∀ (x : World) (i : Nat) (v : Value), (x.setCell ⟨g3, i, none⟩ v).cell? ⟨g, o + j, none⟩ = x.cell? ⟨g, o + j, none⟩ := fun x i v =>
    World.cell?_setCell_far x ⟨g3, i, none⟩ ⟨g, o + j, none⟩ v hne
  rw [hf, hf, hf]; exact hx j hj

def GetClo (kd m : Int) (xs : List Int) (g3 : Nat) (W : World) (w' : World) : Prop :=
  ∃ A cap, Blk w' g3 54 #[.int .i64 kd, .int .i64 m, .slice A xs.length cap] ∧ IntSl (fun g => g < W.heap.size) w' A cap xs ∧ Turns (fun x => x = g3) W w'

set_option maxRecDepth 100000 in
set_option maxHeartbeats 400000 in
theorem getclo (p : Nat) (kd m : Int) (xs : List Int) (g1 g2 g3 : Nat) (hn : n ≤ 1048576) (hr : HRows w0 w b cb gb (2 * n) (topV cb gb n o1 u1 c1 o2 u2 c2) C G) (ho1 : o1 + n ≤ 2 * n) (hp : p + (enc kd m xs).length ≤ n) (hN : NodeAt C (o1 + p) kd m xs)
    (h1 : Blk w g1 50 #[.pointer (some ⟨b, 0, none⟩)]) (h2 : Blk w g2 3 #[.int .i64 p]) (h3 : Blk w g3 54 #[.int .i64 0, .int .i64 0, .slice none 0 0]) :
    Calls Try.prog 60 #[.pointer (some ⟨g1, 0, none⟩), .pointer (some ⟨g2, 0, none⟩), .pointer (some ⟨g3, 0, none⟩)] w fun e w' => e = .returned (.tuple #[]) ∧ GetClo kd m xs g3 w w' := by
  have hl := node_any b 0 cb o1 n p kd m xs C w.drew hn hp hr.rb.lt hr.rc.lt hr.t0 (fun i hi => hr.rc.cell (by omega)) hN
  have HL := Lib.hid hl
  have a1 := h1.cell 0; have a2 := h2.cell 0; have a3 := h3.cell 0; have a4 := h3.cell 1; have a5 := h3.cell 2; have af := h3.frozen
  have l3 := h3.lt
  simp at a1 a2 a3 a4 a5
  have H3 := Lib.hid h3
  clear hl hr hN h1 h2 h3
  go_enter Try.func60, Try.ntmps60
  go_region_with (go_at_call 61; refine HL.out.mono ?_; rintro e w1 ⟨A, cap, rfl, hi, hb⟩; have a3' := (hb.cell (p := ⟨g3, 0, none⟩) (by simpa using l3)).trans a3; have a4' := (hb.cell (p := ⟨g3, 1, none⟩) (by simpa using l3)).trans a4; have a5' := (hb.cell (p := ⟨g3, 2, none⟩) (by simpa using l3)).trans a5; have af' := fun i => (hb.frozen (p := ⟨g3, i, none⟩) (by simpa using l3)).trans (af i); have HI := Lib.hid hi; have HB := Lib.hid hb; clear hi hb)
  all_goals go_wp2_with fail
  all_goals go_end0
  all_goals exact ⟨rfl, A, cap, getclo_post H3.out HI.out HB.out⟩

/-- What Get hands back. -/
def GetV (kd m : Int) (xs : List Int) (w : World) (e : Ending) (w' : World) : Prop :=
  ∃ A cap, e = .returned (.tuple #[.agg #[.int .i64 kd, .int .i64 m, .slice A xs.length cap], .int .i64 0]) ∧ IntSl (fun g => g < w.heap.size) w' A cap xs ∧ Below w.heap.size w w'

theorem get_fin {xs : List Int} {W w' : World} {A : Option Addr} {cap : Nat} {o1 o2 : Obj} (hW : W = ((w.alloc o1).alloc o2).alloc (.cells #[.int .i64 0, .int .i64 0, .slice none 0 0] 54))
    (hi : IntSl (fun g => g < W.heap.size) w' A cap xs) (ht : Turns (fun x => x = w.heap.size + 1 + 1) W w') (v0 v1 v2 : Value) :
    IntSl (fun g => g < w.heap.size) (((w'.setCell ⟨w.heap.size + 1 + 1, 0, none⟩ v0).setCell ⟨w.heap.size + 1 + 1, 1, none⟩ v1).setCell ⟨w.heap.size + 1 + 1, 2, none⟩ v2) A cap xs ∧
    Below w.heap.size w (((w'.setCell ⟨w.heap.size + 1 + 1, 0, none⟩ v0).setCell ⟨w.heap.size + 1 + 1, 1, none⟩ v1).setCell ⟨w.heap.size + 1 + 1, 2, none⟩ v2) := by
  have hz : W.heap.size = w.heap.size + 1 + 1 + 1 := by rw [hW]; simp
  constructor
  · refine ⟨hi.1, fun h0 => ?_⟩
    obtain ⟨g, o, hA, hg, hs, hx⟩ := hi.2 h0
    refine ⟨g, o, hA, by simpa [World.setCell] using hg, by omega, fun j hj => ?_⟩
    have hne : w.heap.size + 1 + 1 ≠ g := by omega
    have hf : ∀ (x : World) (i : Nat) (v : Value), (x.setCell ⟨w.heap.size + 1 + 1, i, none⟩ v).cell? ⟨g, o + j, none⟩ = x.cell? ⟨g, o + j, none⟩ := fun x i v =>
      World.cell?_setCell_far x ⟨w.heap.size + 1 + 1, i, none⟩ ⟨g, o + j, none⟩ v hne
    rw [hf, hf, hf]; exact hx j hj
  · refine below_set (below_set (below_set ?_ (by omega) _) (by omega) _) (by omega) _
    have h1 : Below w.heap.size w W := by rw [hW]; exact below3 _ _ _
    exact h1.trans (ht.below (by omega) (fun k hk => by omega))

set_option maxRecDepth 100000 in
set_option maxHeartbeats 400000 in
theorem get_ok (p : Nat) (kd m : Int) (xs : List Int) (hn0 : 1 ≤ n) (hn : n ≤ 1048576) (hu : u1 ≤ n) (hr : HRows w0 w b cb gb (2 * n) (topV cb gb n o1 u1 c1 o2 u2 c2) C G) (ho1 : o1 + n ≤ 2 * n) (hp : p < u1) (hG : G (o1 + p) = true)
    (hlen : p + (enc kd m xs).length ≤ n) (hN : NodeAt C (o1 + p) kd m xs) :
    Calls Try.prog 28 #[.pointer (some ⟨b, 0, none⟩), .int .i64 p] w (GetV kd m xs w) := by
  have hask : ∀ W : World, W = ((w.alloc (.cells #[.pointer (some ⟨b, 0, none⟩)] 50)).alloc (.cells #[.int .i64 p] 3)).alloc (.cells #[.int .i64 0, .int .i64 0, .slice none 0 0] 54) →
      Calls Try.prog 59 #[.pointer (some ⟨b, 0, none⟩), .int .i64 p, .func (.func 60) #[] #[.pointer (some ⟨w.heap.size, 0, none⟩), .pointer (some ⟨w.heap.size + 1, 0, none⟩), .pointer (some ⟨w.heap.size + 1 + 1, 0, none⟩)]] W fun e w' => e = .returned (.int .i64 0) ∧ GetClo kd m xs (w.heap.size + 1 + 1) W w' := by
    rintro W rfl
    have hW := hr.below (below3 (.cells #[.pointer (some ⟨b, 0, none⟩)] 50) (.cells #[.int .i64 p] 3) (.cells #[.int .i64 0, .int .i64 0, .slice none 0 0] 54))
    refine ask_any w0 _ b cb gb n o1 u1 c1 o2 u2 c2 C G p 60 _ _ hn0 hn hu hW ho1 hp hG (enters_of Try.func60 (by kernel_rfl) rfl) ?_
    have B1 : Blk (((w.alloc (.cells #[.pointer (some ⟨b, 0, none⟩)] 50)).alloc (.cells #[.int .i64 p] 3)).alloc (.cells #[.int .i64 0, .int .i64 0, .slice none 0 0] 54)) w.heap.size 50 #[.pointer (some ⟨b, 0, none⟩)] := ((Blk.new _ _ _).alloc _).alloc _
    have B2 : Blk (((w.alloc (.cells #[.pointer (some ⟨b, 0, none⟩)] 50)).alloc (.cells #[.int .i64 p] 3)).alloc (.cells #[.int .i64 0, .int .i64 0, .slice none 0 0] 54)) (w.heap.size + 1) 3 #[.int .i64 p] := by
      have h := (Blk.new (w.alloc (.cells #[.pointer (some ⟨b, 0, none⟩)] 50)) 3 #[.int .i64 p]).alloc (.cells #[.int .i64 0, .int .i64 0, .slice none 0 0] 54)
      simp only [World.size_alloc] at h; exact h
    have B3 : Blk (((w.alloc (.cells #[.pointer (some ⟨b, 0, none⟩)] 50)).alloc (.cells #[.int .i64 p] 3)).alloc (.cells #[.int .i64 0, .int .i64 0, .slice none 0 0] 54)) (w.heap.size + 1 + 1) 54 #[.int .i64 0, .int .i64 0, .slice none 0 0] := by
      have h := (Blk.new ((w.alloc (.cells #[.pointer (some ⟨b, 0, none⟩)] 50)).alloc (.cells #[.int .i64 p] 3)) 54 #[.int .i64 0, .int .i64 0, .slice none 0 0])
      simp only [World.size_alloc] at h; exact h
    exact getclo w0 _ b cb gb n o1 u1 c1 o2 u2 c2 C G p kd m xs _ _ _ hn hW ho1 hlen hN B1 B2 B3
  have HA := Lib.hid hask; clear hask hr hG hN
  go_enter Try.func28, Try.ntmps28
  go_wp2_with (go_at_call 59; refine (HA.out _ rfl).mono ?_; rintro e w1 ⟨rfl, A, cap, hB, hi, ht⟩; have a0 := hB.cell 0; have a1 := hB.cell 1; have a2 := hB.cell 2; have af := hB.frozen; simp at a0 a1 a2; have HB := Lib.hid hB; have HI := Lib.hid hi; have HT := Lib.hid ht; clear hB hi ht)
  refine bodyPost_ret (v := .tuple #[.agg #[.int .i64 kd, .int .i64 m, .slice A xs.length cap], .int .i64 0]) (by simp [results, Try.results28, go_sem, a0, a1, a2]) rfl ⟨A, cap, rfl, ?_⟩
  exact get_fin w rfl HI.out HT.out _ _ _
end
end Go.Proofs.Ytfeghobfkgimfaa
