/- (*Heap).Put: a node that may be, whose args are there: laid, or no room. -/
import Derived.Test.YtfeghobfkgimfaaCont
namespace Go.Proofs.Ytfeghobfkgimfaa
open Go.RowKit

theorem IntSl.below {S : Nat → Prop} {w w1 : World} {A : Option Addr} {cap : Nat} {xs : List Int} (h : IntSl S w A cap xs) (hb : Below w.heap.size w w1) : IntSl S w1 A cap xs :=
  ⟨h.1, fun h0 => by
    obtain ⟨g, o, hA, hg, hs, hx⟩ := h.2 h0
    exact ⟨g, o, hA, by have := hb.size; omega, hs, fun j hj => (hb.cell (p := ⟨g, o + j, none⟩) hg).trans (hx j hj)⟩⟩
theorem IntSl.of {S : Nat → Prop} {w w1 : World} {A : Option Addr} {cap : Nat} {xs : List Int} (h : IntSl S w A cap xs) (hb : ∀ g i, g < w.heap.size → w1.cell? ⟨g, i, none⟩ = w.cell? ⟨g, i, none⟩) (hz : w.heap.size ≤ w1.heap.size) : IntSl S w1 A cap xs :=
  ⟨h.1, fun h0 => by
    obtain ⟨g, o, hA, hg, hs, hx⟩ := h.2 h0
    exact ⟨g, o, hA, by omega, hs, fun j hj => (hb g _ hg).trans (hx j hj)⟩⟩

theorem below1 {w : World} (o : Obj) : Below w.heap.size w (w.alloc o) := (Below.refl _ _).alloc (Nat.le_refl _) _
theorem below2 {w : World} (o o' : Obj) : Below w.heap.size w ((w.alloc o).alloc o') := (below1 o).alloc (by simp) _
theorem below3 {w : World} (o o' o'' : Obj) : Below w.heap.size w (((w.alloc o).alloc o').alloc o'') := (below2 o o').alloc (by simp; omega) _
theorem below4 {w : World} (o o' o'' o4 : Obj) : Below w.heap.size w ((((w.alloc o).alloc o').alloc o'').alloc o4) := (below3 o o' o'').alloc (by simp; omega) _

set_option maxRecDepth 100000 in
set_option maxHeartbeats 400000 in
theorem none_at (b : Nat) (s : Int) (hs : s ≠ 0) (w : World) (hc : w.cell? ⟨b, 8, none⟩ = some (.int .i64 s)) :
    Calls Try.prog 50 #[.pointer (some ⟨b, 0, none⟩)] w fun e w' => e = .returned (.bool false) ∧ w = w' := by
  have hb : (s == 0) = false := by simpa using hs
  go_enter Try.func50, Try.ntmps50
  go_wp2
  go_ret
  exact ⟨rfl, rfl⟩

set_option maxRecDepth 100000 in
set_option maxHeartbeats 1000000 in
theorem put_any (w0 w : World) (b cb gb n o1 u1 c1 o2 u2 c2 : Nat) (C : Nat → Int) (G : Nat → Bool) (k m : Int) (A : Option Addr) (cap : Nat) (xs : List Int) (hn0 : 1 ≤ n) (hn : n ≤ 1048576) (ho1 : o1 + n ≤ 2 * n) (hu1 : u1 ≤ n) (hc1 : c1 ≤ 2097152)
    (hr : HRows w0 w b cb gb (2 * n) (topV cb gb n o1 u1 c1 o2 u2 c2) C G) (hok : okNode k m xs) (hA : IntSl (In3 b cb gb) w A cap xs) (hx : ∀ x ∈ xs, ThereAt o1 u1 G x) :
    Calls Try.prog 21 #[.pointer (some ⟨b, 0, none⟩), .agg #[.int .i64 k, .int .i64 m, .slice A xs.length cap]] w fun e w' =>
      (u1 + (enc k m xs).length ≤ n → e = .returned (.tuple #[.int .i64 u1, .int .i64 0]) ∧
        HRows w0 w' b cb gb (2 * n) (topV cb gb n o1 (u1 + (enc k m xs).length) (c1 + 1) o2 u2 c2) (wr C (o1 + u1) (enc k m xs)) (upd G (o1 + u1) true)) ∧
      (n < u1 + (enc k m xs).length → e = .returned (.tuple #[.int .i64 0, .int .i64 51]) ∧ HRows w0 w' b cb gb (2 * n) (topV cb gb n o1 u1 c1 o2 u2 c2) C G) := by
  have hpos := enc_pos hok
  have hcells := cells_enc hok
  have hxl : xs.length ≤ 255 := by rcases hok with ⟨_, rfl⟩ | ⟨_, _, rfl⟩ | ⟨_, _, rfl⟩ | ⟨_, _, h⟩ | ⟨_, _, _, h⟩ <;> first | simp | omega
  have l1 := hr.rb.lt; have l2 := hr.rc.lt; have l3 := hr.rg.lt
  have t0 := hr.t0; have t1 := hr.t1; have t2 := hr.t2; have t8 := hr.t8
  obtain ⟨L, hL⟩ : ∃ L, L = (enc k m xs).length := ⟨_, rfl⟩
  rw [← hL] at hpos hcells ⊢
  obtain ⟨X, hX⟩ : ∃ X, X = xs.length := ⟨_, rfl⟩
  rw [← hX] at hcells hxl ⊢
  have hb0 : ((L : Int) == 0) = false := by simp; omega
  have hcont : ∀ W : World, Below w.heap.size w W → W.cell? ⟨w.heap.size, 0, none⟩ = some (.pointer (some ⟨b, 0, none⟩)) → Calls Try.prog 51 #[.slice A X cap, .func (.func 52) #[] #[.pointer (some ⟨w.heap.size, 0, none⟩)]] W fun e w' => e = .returned (.bool false) ∧ W = w' := fun W hb hp => by
    have hW := hr.below hb
    rw [hX]
    exact contains_52 W b w.heap.size n o1 u1 gb G A cap xs (In3 b cb gb) (by omega) (hA.below hb) hn hu1 hp hW.t2 hW.t1 (fun k hk => hW.rg.cell (by omega)) hx
  have HCont := Lib.hid hcont; clear hcont
  have HCells := Lib.hid hcells; have HR := Lib.hid hr; have HA := Lib.hid hA; have HX := Lib.hid hx; have HOk := Lib.hid hok; have HL := Lib.hid hL; have HXL := Lib.hid hX
  clear hcells hr hA hx hok hL hX
  go_enter Try.func21, Try.ntmps21
  go_wp2_with (first | (go_at_call 22; refine (cells_any _ _ _ _ _ (by omega) _).mono ?_; rintro e w1 ⟨rfl, rfl⟩; rw [HCells.out]) | (go_at_call 50; refine (none_at b n (by omega) _ (((below3 _ _ _).cell (p := ⟨b, 8, none⟩) l1).trans t8)).mono ?_; rintro e w1 ⟨rfl, rfl⟩) | (go_at_call 51; refine (HCont.out _ (below3 _ _ _) (by go_simp)).mono ?_; rintro e w1 ⟨rfl, rfl⟩))
  obtain ⟨W, hW⟩ : ∃ W, W = (((w.alloc (.cells #[.pointer (some ⟨b, 0, none⟩)] 50)).alloc (.cells #[.int .i64 k, .int .i64 m, .slice A X cap] 54)).alloc (.cells #[.int .i64 k, .int .i64 m, .slice A X cap] 54)) := ⟨_, rfl⟩
  rw [← hW]
  have hbel : Below w.heap.size w W := by rw [hW]; exact below3 _ _ _
  have p0 : W.cell? ⟨w.heap.size, 0, none⟩ = some (.pointer (some ⟨b, 0, none⟩)) := by rw [hW]; go_simp
  have n0 : W.cell? ⟨w.heap.size + 1, 0, none⟩ = some (.int .i64 k) := by rw [hW]; go_simp
  have n1 : W.cell? ⟨w.heap.size + 1, 1, none⟩ = some (.int .i64 m) := by rw [hW]; go_simp
  have n2 : W.cell? ⟨w.heap.size + 1, 2, none⟩ = some (.slice A X cap) := by rw [hW]; go_simp
  have hRW := HR.out.below hbel
  have hAW := HA.out.below hbel
  clear t0 t1 t2 t8 hW
  have t2 := hRW.t2; have t8 := hRW.t8
  have hlay : u1 + L ≤ n → ∀ q, Calls Try.prog 54 #[.pointer (some ⟨b, 0, none⟩), .agg #[.int .i64 k, .int .i64 m, .slice A X cap]] (W.drewN q) fun e w' => e = .returned (.int .i64 u1) ∧
      HRows w0 w' b cb gb (2 * n) (topV cb gb n o1 (u1 + L) (c1 + 1) o2 u2 c2) (wr C (o1 + u1) (enc k m xs)) (upd G (o1 + u1) true) := fun hu q => by
    rw [HXL.out, HL.out]
    refine (lay_any w0 b 0 cb gb o1 n (2 * n) u1 c1 _ C G k m A cap xs (W.drewN q) (by omega) ho1 (by omega) (by rw [← HL.out]; exact hu) hc1 HOk.out hAW (hRW.drewN q) rfl rfl rfl rfl).mono ?_
    rintro e w' ⟨rfl, h⟩
    exact ⟨rfl, h.congr (fun i _ => topV_main i) (fun _ _ => rfl) (fun _ _ => rfl)⟩
  have HLay := Lib.hid hlay; have HRW := Lib.hid hRW; have HB := Lib.hid hbel; clear hlay hRW hAW hbel
  by_cases hfit : u1 + L ≤ n
  · have hd : decide ((n : Int) - (u1 : Int) < (L : Int)) = false := decide_eq_false (by omega)
    go_quiet (fail)
    go_wp2_with fail
    go_region_with (go_at_call 54; refine (HLay.out hfit _).mono ?_; rintro e w1 ⟨rfl, hr1⟩; have HR1 := Lib.hid hr1; clear hr1)
    all_goals go_wp2_with fail
    all_goals go_ret2
    all_goals exact ⟨fun _ => ⟨rfl, HR1.out⟩, fun h => absurd h (by omega)⟩
  · have hd : decide ((n : Int) - (u1 : Int) < (L : Int)) = true := decide_eq_true (by omega)
    go_quiet (fail)
    go_wp2_with fail
    go_ret2
    exact ⟨fun h => absurd h hfit, fun _ => ⟨rfl, HRW.out.drewN _⟩⟩
end Go.Proofs.Ytfeghobfkgimfaa
