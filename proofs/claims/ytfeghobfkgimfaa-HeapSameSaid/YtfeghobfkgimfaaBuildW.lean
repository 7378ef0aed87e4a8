/- build: nodes put, each of those that are there; then some stand for others. -/
import Derived.Test.YtfeghobfkgimfaaFull
import Derived.Test.YtfeghobfkgimfaaShapeP
import Derived.StillTailTactics
import Derived.Deep.DeepCutAuto
import Derived.IntWalk
namespace Go.Proofs.Ytfeghobfkgimfaa
open Go.RowKit Go.Shelf

/-- What has been built. -/
def BdR (w : World) (n b cb gb j : Nat) (v : Value) (wr : World) : Prop :=
  ∃ L sz lk nd u, Hp wr b cb gb n u L sz lk nd ∧ Turns (In3 b cb gb) w wr ∧ wr.ownsRow w.heap.size 3 1 v L.length ((ints L).map (Value.int .i64)) ∧ L.length ≤ j

theorem pick_mod2 (z : Int) (X : Nat) (hX : 0 < X) (hX2 : X ≤ 1000000) : ∃ n : Nat, IntKind.i64.wrap (z.tmod (X : Int) + (X : Int)) = z.tmod (X : Int) + (X : Int) ∧ (z.tmod (X : Int) + (X : Int)).tmod (X : Int) = (n : Int) ∧ n < X := by
  obtain ⟨h1, h2, h3, h4⟩ := tmod_range z X (by omega)
  exact ⟨((z.tmod (X : Int) + X).tmod X).toNat, IntWalk.i64_in _ (by omega), by omega, by omega⟩

theorem below_w00 {w00 w wr : World} {b cb gb : Nat} (h0 : Below w00.heap.size w00 w) (h1 : w00.heap.size ≤ b) (h2 : w00.heap.size ≤ cb) (h3 : w00.heap.size ≤ gb) (ht : Turns (In3 b cb gb) w wr) : Below w00.heap.size w00 wr :=
  h0.trans (ht.below h0.size (fun k hk => by rcases hk with e | e | e <;> omega))

/-- The node that is to be put. -/
def NdR (w wr : World) (b cb gb n u : Nat) (L : List Nat) (sz lk : Nat → Nat) (nd : Nat → Nd) (v : Value) (wc : World) : Prop :=
  ∃ kd m A cap xs, Blk wc wr.heap.size 54 #[.int .i64 kd, .int .i64 m, .slice A xs.length cap] ∧ okNode kd m (ints xs) ∧ IntSl (In3 b cb gb) wc A cap (ints xs) ∧ (∀ a ∈ xs, a ∈ L) ∧
    Hp wc b cb gb n u L sz lk nd ∧ Turns (In3 b cb gb) w wc ∧ wc.ownsRow w.heap.size 3 1 v L.length ((ints L).map (Value.int .i64))

section
variable {w wr wc : World} {b cb gb n u : Nat} {L : List Nat} {sz lk : Nat → Nat} {nd : Nat → Nd} {v : Value}
theorem NdR.mk (hp : Hp wr b cb gb n u L sz lk nd) (ht : Turns (In3 b cb gb) w wr) (hown : wr.ownsRow w.heap.size 3 1 v L.length ((ints L).map (Value.int .i64))) (hb : Below wr.heap.size wr wc) {kd m : Int} {A : Option Addr} {cap : Nat} {xs : List Nat}
    (hbx : Blk wc wr.heap.size 54 #[.int .i64 kd, .int .i64 m, .slice A xs.length cap]) (hok : okNode kd m (ints xs)) (hsl : IntSl (In3 b cb gb) wc A cap (ints xs)) (hx : ∀ a ∈ xs, a ∈ L) : NdR w wr b cb gb n u L sz lk nd v wc :=
  ⟨kd, m, A, cap, xs, hbx, hok, hsl, hx, hp.below hb, ht.trans (Turns.of_below hb), own_turns hown (Turns.of_below hb (S := fun _ => False)) (fun _ _ x => x)⟩
theorem IntSl.nil (S : Nat → Prop) (w : World) : IntSl S w none 0 (ints []) := ⟨Nat.le_refl _, fun h => absurd h (by simp [ints])⟩
theorem IntSl.blk {S : Nat → Prop} {w : World} {g : Nat} {xs : List Nat} (h : Blk w g 3 ((ints xs).map (Value.int .i64)).toArray) (hS : ¬ S g) : IntSl S w (some ⟨g, 0, none⟩) xs.length (ints xs) :=
  ⟨by rw [ints_length]; exact Nat.le_refl _, fun _ => ⟨g, 0, rfl, h.lt, hS, fun j hj => by
    rw [Nat.zero_add, h.cell j]; simp [hj]⟩⟩

theorem Turns.grown_ {S : Nat → Prop} {a w w' : World} (h : Turns S a w) {row : Option Nat} (k : w.grownBy w' row) (hr : ∀ x, row = some x → a.heap.size ≤ x) : Turns S a w' :=
  ⟨k.os.trans h.os, k.tape.trans h.tape, k.output.trans h.output, Nat.le_trans h.size k.size, fun i hi hs => (k.block i (Nat.lt_of_lt_of_le hi h.size) (fun e => by have := hr i e.symm; omega)).trans (h.block i hi hs)⟩

/-- What Put has made of it. -/
theorem BdR.put {j X : Nat} (hXl : X = L.length) (hp : Turns (In3 b cb gb) w wr) (hX : L.length ≤ j) {v' : Value} (hown : wr.ownsRow w.heap.size 3 1 v' (X + 1) ((ints L).map (Value.int .i64) ++ [.int .i64 (u : Int)])) {u2 : Nat} {sz2 lk2 : Nat → Nat} {nd2 : Nat → Nd}
    (h : Hp wr b cb gb n u2 (L ++ [u]) sz2 lk2 nd2) : BdR w n b cb gb (j + 1) v' wr :=
  ⟨L ++ [u], sz2, lk2, nd2, u2, h, hp, by subst hXl; rw [List.length_append]; simpa [ints] using hown, by simp; omega⟩
end

set_option maxRecDepth 100000 in
set_option maxHeartbeats 4000000 in
theorem build_any (w00 w : World) (b cb gb n : Nat) (A : Option Addr) (cap : Nat) (l : List ActD) (hb0 : Below w00.heap.size w00 w) (hl : ActsSl w00 A cap l) (h1 : w00.heap.size ≤ b) (h2 : w00.heap.size ≤ cb) (h3 : w00.heap.size ≤ gb)
    (u0 : Nat) (sz0 lk0 : Nat → Nat) (nd0 : Nat → Nd) (hp : Hp w b cb gb n u0 [] sz0 lk0 nd0) (hn0 : 1 ≤ n) (hn : n ≤ 1048576) (hll : l.length ≤ 100000) :
    Calls Try.prog 23 #[.pointer (some ⟨b, 0, none⟩), .slice A l.length cap] w fun e w' => ∃ v, e = .returned v ∧ BdR w n b cb gb l.length v w' := by
  obtain ⟨i0, hi, hz0, hzs, hzb⟩ := info_parts Try.info3
  have hlts := hp.lts
  obtain ⟨R, hR⟩ : ∃ R, R = l.length := ⟨_, rfl⟩
  rw [← hR] at hll ⊢
  have HB0 := Lib.hid hb0; have HL := Lib.hid hl; have HP0 := Lib.hid hp; have HR := Lib.hid hR
  clear hb0 hl hp hR
  obtain ⟨l1, l2, l3⟩ := hlts
  go_enter Try.func23, Try.ntmps23
  go_wp2_with fail
  go_loopg [5, 6] R (fun gk v i wr => ∃ j : Nat, j ≤ R ∧ gk = R - j ∧ i = .int .i64 j ∧ BdR w n b cb gb j v wr)
  case atStart => exact ⟨0, Nat.zero_le _, rfl, rfl, [], sz0, lk0, nd0, u0, HP0.out, Turns.refl _ _, World.ownsRow_nil _ _ _ _, Nat.le_refl _⟩
  case round =>
    obtain ⟨j, hj, rfl, rfl, L, sz, lk, nd, u, hp, ht, hown, hLj⟩ := hrel
    obtain ⟨Av, cv, rfl⟩ := own_slice hown
    by_cases hlt : j < R
    · have helt : ∃ g o y, A = some ⟨g, o, none⟩ ∧ g < w00.heap.size ∧ ActCells w00 g (o + j * 7) y := by
        obtain ⟨_, _, hx⟩ := HL.out
        obtain ⟨g, o, ha, hg, hc⟩ := hx (by rw [← HR.out]; omega)
        exact ⟨g, o, _, ha, hg, hc j (by rw [← HR.out]; exact hlt)⟩
      obtain ⟨g, o, x, rfl, hg, hc⟩ := helt
      have hbw := below_w00 HB0.out h1 h2 h3 ht
      have ec : ∀ p, wr.cell? ⟨g, p, none⟩ = w00.cell? ⟨g, p, none⟩ := fun p => hbw.cell (p := ⟨g, p, none⟩) hg
      have c0 := (ec _).trans hc.c0; have c1 := (ec _).trans hc.c1; have c2 := (ec _).trans hc.c2; have c4 := (ec _).trans hc.c4
      have hzw := ht.size
      have hgw : g < wr.heap.size := Nat.lt_of_lt_of_le hg hbw.size
      obtain ⟨X, hX⟩ : ∃ X, X = L.length := ⟨_, rfl⟩
      rw [← hX] at hown hLj ⊢
      obtain ⟨K, hK, hK4⟩ := pick_mod x.k 4 (by decide) (by decide)
      have HK := Lib.hid hK; have HP := Lib.hid hp; have HT := Lib.hid ht; have HO := Lib.hid hown; have HX := Lib.hid hX
      have hi1 : (j : Int) < (R : Int) := by omega
      have HC1 := Lib.hid c1; have HC2 := Lib.hid c2
      clear hc hbw ec hK hp ht hown hX c1 c2
      go_upto_region 7 with fail
      rw [HK.out]
      have HO2 : Hid (wr.ownsRow w.heap.size 3 1 (.slice Av X cv) L.length ((ints L).map (Value.int .i64))) := Lib.hid (by have := HO.out; rwa [← HX.out])
      have hcs : (X = 0 ∨ K = 0) ∨ (0 < X ∧ K ≠ 0) := by omega
      rcases hcs with hpl | ⟨hX0, hK0⟩
      · rcases hpl with hX0 | hK0
        · have hX1 : ¬ (0 : Int) < (X : Int) := by omega
          clear hX0
          go_upto_region 15 with fail
          obtain ⟨wc, hwc⟩ : ∃ wc, wc = wr.alloc (.cells #[.int .i64 1, .int .i64 x.nn, .slice none 0 0] 54) := ⟨_, rfl⟩
          rw [← hwc]
          have hND : Hid (NdR w wr b cb gb n u L sz lk nd (.slice Av X cv) wc) := Lib.hid (by
            rw [hwc]
            exact NdR.mk (xs := []) HP.out HT.out HO2.out (below1 _) (Blk.new _ _ _) (.inl ⟨rfl, rfl⟩) (IntSl.nil _ _) (fun a ha => by simp at ha))
          clear hwc
          clear c0 c4
          obtain ⟨kd, m, A2, cap2, xs, hbx, hok, hsl, hx, hp2, ht2, hown2⟩ := hND.out
          have x0 := hbx.cell 0; have x1 := hbx.cell 1; have x2 := hbx.cell 2
          simp at x0 x1 x2
          have hput := hp2.put hn0 hn hok hsl hx
          have HPT := Lib.hid hput; have HT2 := Lib.hid ht2; have HO3 := Lib.hid hown2
          have hzc := ht2.size
          clear hbx hok hsl hx hp2 ht2 hown2 hND hput
          go_wp2_with fail
          refine HPT.out.mono ?_
          rintro e w2 ⟨ht3, hcase⟩
          have HT3 := Lib.hid (HT2.out.trans ht3)
          have hz3 := (HT2.out.trans ht3).size
          have hown3 := own_turns HO3.out ht3 (fun k hk => by have := (HO3.out.lt k hk).1; rintro (e | e | e) <;> omega)
          have HO4 := Lib.hid hown3
          clear hown3 ht3 x0 x1 x2
          rcases hcase with ⟨_, rfl, hp3⟩ | ⟨_, rfl, hp3⟩
          · have HP3 := Lib.hid hp3; clear hp3
            have HOX : Hid (w2.ownsRow w.heap.size 3 1 (.slice Av X cv) X ((ints L).map (Value.int .i64))) := Lib.hid (by have := HO4.out; rwa [← HX.out] at this)
            go_wp2_with (first | (go_at_call 18; refine (num23_any _ _).mono ?_; rintro e w7 ⟨rfl, rfl⟩) | (at_builtin; refine wpList_append_lies _ rfl (.tmp 99) (.tmp 101) 22 rfl w.heap.size 3 i0 (.int .i64 0) 1 8 Try.underlying22 hi hz0 hzs hzb rfl (by decide) (.slice Av X cv) X ((ints L).map (Value.int .i64)) rfl (HOX.out.alloc _) ⟨w2.heap.size, 0, none⟩ 1 1 [.int .i64 (u : Int)] rfl rfl (cell_one_new _ _ _) (by simp [Value.oneCell']) (by decide) (by unfold maxLen; omega) (by omega) (by simp; omega) (w2.heap.size + 1) (by simp) ?_; intro g3 cap3 w3 hown3 hgrow3 hat3 hglt3; have HOW := Lib.hid hown3; have HGR := Lib.hid hgrow3; clear hown3 hgrow3 hat3))
            go_roundg (R - (j + 1))
            case measure => omega
            case rel =>
              refine ⟨j + 1, by omega, rfl, by go_num, BdR.put HX.out ((HT3.out.alloc _).grown_ HGR.out (fun k hk => (HO4.out.lt k hk).1)) (by have := HX.out; omega) HOW.out ((HP3.out.below (below1 _)).turns (turns_of_grown HGR.out) (fun k hk => ?_))⟩
              have := (HO4.out.lt k hk.symm).1
              rintro (e | e | e) <;> omega
          · have HP3 := Lib.hid hp3; clear hp3
            go_wp2_with (go_at_call 18; refine (num23_any _ _).mono ?_; rintro e w7 ⟨rfl, rfl⟩)
            go_roundg (R - (j + 1))
            case measure => omega
            case rel => exact ⟨j + 1, by omega, rfl, by go_num, L, sz, lk, nd, u, HP3.out, HT3.out, HO4.out, by have := HX.out; omega⟩
        · have hK1 : ¬ (0 : Int) < (K : Int) := by omega
          clear hK0
          by_cases hX0 : 0 < X
          · have hX1 : (0 : Int) < (X : Int) := by omega
            go_upto_region 15 with fail
            obtain ⟨wc, hwc⟩ : ∃ wc, wc = wr.alloc (.cells #[.int .i64 1, .int .i64 x.nn, .slice none 0 0] 54) := ⟨_, rfl⟩
            rw [← hwc]
            have hND : Hid (NdR w wr b cb gb n u L sz lk nd (.slice Av X cv) wc) := Lib.hid (by
              rw [hwc]
              exact NdR.mk (xs := []) HP.out HT.out HO2.out (below1 _) (Blk.new _ _ _) (.inl ⟨rfl, rfl⟩) (IntSl.nil _ _) (fun a ha => by simp at ha))
            clear hwc
            clear c0 c4
            obtain ⟨kd, m, A2, cap2, xs, hbx, hok, hsl, hx, hp2, ht2, hown2⟩ := hND.out
            have x0 := hbx.cell 0; have x1 := hbx.cell 1; have x2 := hbx.cell 2
            simp at x0 x1 x2
            have hput := hp2.put hn0 hn hok hsl hx
            have HPT := Lib.hid hput; have HT2 := Lib.hid ht2; have HO3 := Lib.hid hown2
            have hzc := ht2.size
            clear hbx hok hsl hx hp2 ht2 hown2 hND hput
            go_wp2_with fail
            refine HPT.out.mono ?_
            rintro e w2 ⟨ht3, hcase⟩
            have HT3 := Lib.hid (HT2.out.trans ht3)
            have hz3 := (HT2.out.trans ht3).size
            have hown3 := own_turns HO3.out ht3 (fun k hk => by have := (HO3.out.lt k hk).1; rintro (e | e | e) <;> omega)
            have HO4 := Lib.hid hown3
            clear hown3 ht3 x0 x1 x2
            rcases hcase with ⟨_, rfl, hp3⟩ | ⟨_, rfl, hp3⟩
            · have HP3 := Lib.hid hp3; clear hp3
              have HOX : Hid (w2.ownsRow w.heap.size 3 1 (.slice Av X cv) X ((ints L).map (Value.int .i64))) := Lib.hid (by have := HO4.out; rwa [← HX.out] at this)
              go_wp2_with (first | (go_at_call 18; refine (num23_any _ _).mono ?_; rintro e w7 ⟨rfl, rfl⟩) | (at_builtin; refine wpList_append_lies _ rfl (.tmp 99) (.tmp 101) 22 rfl w.heap.size 3 i0 (.int .i64 0) 1 8 Try.underlying22 hi hz0 hzs hzb rfl (by decide) (.slice Av X cv) X ((ints L).map (Value.int .i64)) rfl (HOX.out.alloc _) ⟨w2.heap.size, 0, none⟩ 1 1 [.int .i64 (u : Int)] rfl rfl (cell_one_new _ _ _) (by simp [Value.oneCell']) (by decide) (by unfold maxLen; omega) (by omega) (by simp; omega) (w2.heap.size + 1) (by simp) ?_; intro g3 cap3 w3 hown3 hgrow3 hat3 hglt3; have HOW := Lib.hid hown3; have HGR := Lib.hid hgrow3; clear hown3 hgrow3 hat3))
              go_roundg (R - (j + 1))
              case measure => omega
              case rel =>
                refine ⟨j + 1, by omega, rfl, by go_num, BdR.put HX.out ((HT3.out.alloc _).grown_ HGR.out (fun k hk => (HO4.out.lt k hk).1)) (by have := HX.out; omega) HOW.out ((HP3.out.below (below1 _)).turns (turns_of_grown HGR.out) (fun k hk => ?_))⟩
                have := (HO4.out.lt k hk.symm).1
                rintro (e | e | e) <;> omega
            · have HP3 := Lib.hid hp3; clear hp3
              go_wp2_with (go_at_call 18; refine (num23_any _ _).mono ?_; rintro e w7 ⟨rfl, rfl⟩)
              go_roundg (R - (j + 1))
              case measure => omega
              case rel => exact ⟨j + 1, by omega, rfl, by go_num, L, sz, lk, nd, u, HP3.out, HT3.out, HO4.out, by have := HX.out; omega⟩
          · have hX1 : ¬ (0 : Int) < (X : Int) := by omega
            go_upto_region 15 with fail
            obtain ⟨wc, hwc⟩ : ∃ wc, wc = wr.alloc (.cells #[.int .i64 1, .int .i64 x.nn, .slice none 0 0] 54) := ⟨_, rfl⟩
            rw [← hwc]
            have hND : Hid (NdR w wr b cb gb n u L sz lk nd (.slice Av X cv) wc) := Lib.hid (by
              rw [hwc]
              exact NdR.mk (xs := []) HP.out HT.out HO2.out (below1 _) (Blk.new _ _ _) (.inl ⟨rfl, rfl⟩) (IntSl.nil _ _) (fun a ha => by simp at ha))
            clear hwc
            clear c0 c4
            obtain ⟨kd, m, A2, cap2, xs, hbx, hok, hsl, hx, hp2, ht2, hown2⟩ := hND.out
            have x0 := hbx.cell 0; have x1 := hbx.cell 1; have x2 := hbx.cell 2
            simp at x0 x1 x2
            have hput := hp2.put hn0 hn hok hsl hx
            have HPT := Lib.hid hput; have HT2 := Lib.hid ht2; have HO3 := Lib.hid hown2
            have hzc := ht2.size
            clear hbx hok hsl hx hp2 ht2 hown2 hND hput
            go_wp2_with fail
            refine HPT.out.mono ?_
            rintro e w2 ⟨ht3, hcase⟩
            have HT3 := Lib.hid (HT2.out.trans ht3)
            have hz3 := (HT2.out.trans ht3).size
            have hown3 := own_turns HO3.out ht3 (fun k hk => by have := (HO3.out.lt k hk).1; rintro (e | e | e) <;> omega)
            have HO4 := Lib.hid hown3
            clear hown3 ht3 x0 x1 x2
            rcases hcase with ⟨_, rfl, hp3⟩ | ⟨_, rfl, hp3⟩
            · have HP3 := Lib.hid hp3; clear hp3
              have HOX : Hid (w2.ownsRow w.heap.size 3 1 (.slice Av X cv) X ((ints L).map (Value.int .i64))) := Lib.hid (by have := HO4.out; rwa [← HX.out] at this)
              go_wp2_with (first | (go_at_call 18; refine (num23_any _ _).mono ?_; rintro e w7 ⟨rfl, rfl⟩) | (at_builtin; refine wpList_append_lies _ rfl (.tmp 99) (.tmp 101) 22 rfl w.heap.size 3 i0 (.int .i64 0) 1 8 Try.underlying22 hi hz0 hzs hzb rfl (by decide) (.slice Av X cv) X ((ints L).map (Value.int .i64)) rfl (HOX.out.alloc _) ⟨w2.heap.size, 0, none⟩ 1 1 [.int .i64 (u : Int)] rfl rfl (cell_one_new _ _ _) (by simp [Value.oneCell']) (by decide) (by unfold maxLen; omega) (by omega) (by simp; omega) (w2.heap.size + 1) (by simp) ?_; intro g3 cap3 w3 hown3 hgrow3 hat3 hglt3; have HOW := Lib.hid hown3; have HGR := Lib.hid hgrow3; clear hown3 hgrow3 hat3))
              go_roundg (R - (j + 1))
              case measure => omega
              case rel =>
                refine ⟨j + 1, by omega, rfl, by go_num, BdR.put HX.out ((HT3.out.alloc _).grown_ HGR.out (fun k hk => (HO4.out.lt k hk).1)) (by have := HX.out; omega) HOW.out ((HP3.out.below (below1 _)).turns (turns_of_grown HGR.out) (fun k hk => ?_))⟩
                have := (HO4.out.lt k hk.symm).1
                rintro (e | e | e) <;> omega
            · have HP3 := Lib.hid hp3; clear hp3
              go_wp2_with (go_at_call 18; refine (num23_any _ _).mono ?_; rintro e w7 ⟨rfl, rfl⟩)
              go_roundg (R - (j + 1))
              case measure => omega
              case rel => exact ⟨j + 1, by omega, rfl, by go_num, L, sz, lk, nd, u, HP3.out, HT3.out, HO4.out, by have := HX.out; omega⟩
      · obtain ⟨na, hna, hna2⟩ := pick_mod x.at_ X (by omega) (by omega)
        obtain ⟨nb, hnb, hnb2⟩ := pick_mod x.tt X (by omega) (by omega)
        have hxl := HX.out
        obtain ⟨g2, hAv, hg2, hg3, ca⟩ := own_elt (xs := ints L) (by have := HO.out; exact this) (j := na) (z := (L[na]'(by omega) : Nat)) (by simp [ints]; exact ⟨_, List.getElem?_eq_getElem _, rfl⟩)
        obtain ⟨g2', hAv', _, _, cb_⟩ := own_elt (xs := ints L) (by have := HO.out; exact this) (j := nb) (z := (L[nb]'(by omega) : Nat)) (by simp [ints]; exact ⟨_, List.getElem?_eq_getElem _, rfl⟩)
        subst hAv
        injection hAv' with e1
        injection e1 with e1
        subst e1
        obtain ⟨a, ha⟩ : ∃ a, a = L[na]'(by omega) := ⟨_, rfl⟩
        obtain ⟨q, hq⟩ : ∃ q, q = L[nb]'(by omega) := ⟨_, rfl⟩
        rw [← ha] at ca; rw [← hq] at cb_
        have haL : a ∈ L := by rw [ha]; exact List.getElem_mem _
        have hqL : q ∈ L := by rw [hq]; exact List.getElem_mem _
        have HAL := Lib.hid haL; have HQL := Lib.hid hqL
        have hX1 : (0 : Int) < (X : Int) := by omega
        have hK1 : (0 : Int) < (K : Int) := by omega
        clear ha hq haL hqL hxl
        have c1 := HC1.out; have c2 := HC2.out
        go_upto_region 10 with fail
        have hk : K = 1 ∨ K = 2 ∨ K = 3 := by omega
        rcases hk with hk | hk | hk
        · have hk2 : ((K : Int) == 2) = false := by rw [hk]; rfl
          have hk3 : ((K : Int) == 3) = false := by rw [hk]; rfl
          clear hk hK0 hK1 hK4
          go_upto_region 15 with fail
          obtain ⟨wc, hwc⟩ : ∃ wc, wc = (wr.alloc (.cells #[.int .i64 2, .int .i64 0, .slice (some ⟨wr.heap.size + 1, 0, none⟩) 2 2] 54)).alloc (.cells #[.int .i64 (a : Int), .int .i64 (q : Int)] 3) := ⟨_, rfl⟩
          rw [← hwc]
          have hND : Hid (NdR w wr b cb gb n u L sz lk nd (.slice (some ⟨g2, 0, none⟩) X cv) wc) := Lib.hid (by
            rw [hwc]
            have B1 := Blk.new (wr.alloc (.cells #[.int .i64 2, .int .i64 0, .slice (some ⟨wr.heap.size + 1, 0, none⟩) 2 2] 54)) 3 #[.int .i64 (a : Int), .int .i64 (q : Int)]
            simp only [World.size_alloc] at B1
            exact NdR.mk (xs := [a, q]) HP.out HT.out HO2.out (below2 _ _) ((Blk.new _ _ _).alloc _) (.inr (.inr (.inr (.inl ⟨rfl, rfl, rfl⟩)))) (IntSl.blk (xs := [a, q]) B1 (by rintro (e | e | e) <;> omega)) (fun y hy => by simp at hy; rcases hy with rfl | rfl; exact HAL.out; exact HQL.out))
          clear hwc
          clear c0 c4
          obtain ⟨kd, m, A2, cap2, xs, hbx, hok, hsl, hx, hp2, ht2, hown2⟩ := hND.out
          have x0 := hbx.cell 0; have x1 := hbx.cell 1; have x2 := hbx.cell 2
          simp at x0 x1 x2
          have hput := hp2.put hn0 hn hok hsl hx
          have HPT := Lib.hid hput; have HT2 := Lib.hid ht2; have HO3 := Lib.hid hown2
          have hzc := ht2.size
          clear hbx hok hsl hx hp2 ht2 hown2 hND hput
          go_wp2_with fail
          refine HPT.out.mono ?_
          rintro e w2 ⟨ht3, hcase⟩
          have HT3 := Lib.hid (HT2.out.trans ht3)
          have hz3 := (HT2.out.trans ht3).size
          have hown3 := own_turns HO3.out ht3 (fun k hk => by have := (HO3.out.lt k hk).1; rintro (e | e | e) <;> omega)
          have HO4 := Lib.hid hown3
          clear hown3 ht3 x0 x1 x2
          rcases hcase with ⟨_, rfl, hp3⟩ | ⟨_, rfl, hp3⟩
          · have HP3 := Lib.hid hp3; clear hp3
            have HOX : Hid (w2.ownsRow w.heap.size 3 1 (.slice (some ⟨g2, 0, none⟩) X cv) X ((ints L).map (Value.int .i64))) := Lib.hid (by have := HO4.out; rwa [← HX.out] at this)
            go_wp2_with (first | (go_at_call 18; refine (num23_any _ _).mono ?_; rintro e w7 ⟨rfl, rfl⟩) | (at_builtin; refine wpList_append_lies _ rfl (.tmp 99) (.tmp 101) 22 rfl w.heap.size 3 i0 (.int .i64 0) 1 8 Try.underlying22 hi hz0 hzs hzb rfl (by decide) (.slice (some ⟨g2, 0, none⟩) X cv) X ((ints L).map (Value.int .i64)) rfl (HOX.out.alloc _) ⟨w2.heap.size, 0, none⟩ 1 1 [.int .i64 (u : Int)] rfl rfl (cell_one_new _ _ _) (by simp [Value.oneCell']) (by decide) (by unfold maxLen; omega) (by omega) (by simp; omega) (w2.heap.size + 1) (by simp) ?_; intro g3 cap3 w3 hown3 hgrow3 hat3 hglt3; have HOW := Lib.hid hown3; have HGR := Lib.hid hgrow3; clear hown3 hgrow3 hat3))
            go_roundg (R - (j + 1))
            case measure => omega
            case rel =>
              refine ⟨j + 1, by omega, rfl, by go_num, BdR.put HX.out ((HT3.out.alloc _).grown_ HGR.out (fun k hk => (HO4.out.lt k hk).1)) (by have := HX.out; omega) HOW.out ((HP3.out.below (below1 _)).turns (turns_of_grown HGR.out) (fun k hk => ?_))⟩
              have := (HO4.out.lt k hk.symm).1
              rintro (e | e | e) <;> omega
          · have HP3 := Lib.hid hp3; clear hp3
            go_wp2_with (go_at_call 18; refine (num23_any _ _).mono ?_; rintro e w7 ⟨rfl, rfl⟩)
            go_roundg (R - (j + 1))
            case measure => omega
            case rel => exact ⟨j + 1, by omega, rfl, by go_num, L, sz, lk, nd, u, HP3.out, HT3.out, HO4.out, by have := HX.out; omega⟩
        · have hk2 : ((K : Int) == 2) = true := by rw [hk]; rfl
          have hk3 : ((K : Int) == 3) = false := by rw [hk]; rfl
          clear hk hK0 hK1 hK4
          go_upto_region 15 with fail
          obtain ⟨wc, hwc⟩ : ∃ wc, wc = ((wr.alloc (.cells #[.int .i64 4, .int .i64 3, .slice (some ⟨wr.heap.size + 1 + 1, 0, none⟩) 3 3] 54)).alloc (.cells #[.int .i64 (a : Int), .int .i64 (q : Int)] 3)).alloc (.cells #[.int .i64 (q : Int), .int .i64 (a : Int), .int .i64 (a : Int)] 3) := ⟨_, rfl⟩
          rw [← hwc]
          have hND : Hid (NdR w wr b cb gb n u L sz lk nd (.slice (some ⟨g2, 0, none⟩) X cv) wc) := Lib.hid (by
            rw [hwc]
            have B1 := Blk.new ((wr.alloc (.cells #[.int .i64 4, .int .i64 3, .slice (some ⟨wr.heap.size + 1 + 1, 0, none⟩) 3 3] 54)).alloc (.cells #[.int .i64 (a : Int), .int .i64 (q : Int)] 3)) 3 #[.int .i64 (q : Int), .int .i64 (a : Int), .int .i64 (a : Int)]
            simp only [World.size_alloc] at B1
            exact NdR.mk (xs := [q, a, a]) HP.out HT.out HO2.out (below3 _ _ _) (((Blk.new _ _ _).alloc _).alloc _) (.inr (.inr (.inr (.inr ⟨rfl, by decide, by decide, by simp [ints]⟩)))) (IntSl.blk (xs := [q, a, a]) B1 (by rintro (e | e | e) <;> omega)) (fun y hy => by simp at hy; rcases hy with rfl | rfl; exact HQL.out; exact HAL.out))
          clear hwc
          clear c0 c4
          obtain ⟨kd, m, A2, cap2, xs, hbx, hok, hsl, hx, hp2, ht2, hown2⟩ := hND.out
          have x0 := hbx.cell 0; have x1 := hbx.cell 1; have x2 := hbx.cell 2
          simp at x0 x1 x2
          have hput := hp2.put hn0 hn hok hsl hx
          have HPT := Lib.hid hput; have HT2 := Lib.hid ht2; have HO3 := Lib.hid hown2
          have hzc := ht2.size
          clear hbx hok hsl hx hp2 ht2 hown2 hND hput
          go_wp2_with fail
          refine HPT.out.mono ?_
          rintro e w2 ⟨ht3, hcase⟩
          have HT3 := Lib.hid (HT2.out.trans ht3)
          have hz3 := (HT2.out.trans ht3).size
          have hown3 := own_turns HO3.out ht3 (fun k hk => by have := (HO3.out.lt k hk).1; rintro (e | e | e) <;> omega)
          have HO4 := Lib.hid hown3
          clear hown3 ht3 x0 x1 x2
          rcases hcase with ⟨_, rfl, hp3⟩ | ⟨_, rfl, hp3⟩
          · have HP3 := Lib.hid hp3; clear hp3
            have HOX : Hid (w2.ownsRow w.heap.size 3 1 (.slice (some ⟨g2, 0, none⟩) X cv) X ((ints L).map (Value.int .i64))) := Lib.hid (by have := HO4.out; rwa [← HX.out] at this)
            go_wp2_with (first | (go_at_call 18; refine (num23_any _ _).mono ?_; rintro e w7 ⟨rfl, rfl⟩) | (at_builtin; refine wpList_append_lies _ rfl (.tmp 99) (.tmp 101) 22 rfl w.heap.size 3 i0 (.int .i64 0) 1 8 Try.underlying22 hi hz0 hzs hzb rfl (by decide) (.slice (some ⟨g2, 0, none⟩) X cv) X ((ints L).map (Value.int .i64)) rfl (HOX.out.alloc _) ⟨w2.heap.size, 0, none⟩ 1 1 [.int .i64 (u : Int)] rfl rfl (cell_one_new _ _ _) (by simp [Value.oneCell']) (by decide) (by unfold maxLen; omega) (by omega) (by simp; omega) (w2.heap.size + 1) (by simp) ?_; intro g3 cap3 w3 hown3 hgrow3 hat3 hglt3; have HOW := Lib.hid hown3; have HGR := Lib.hid hgrow3; clear hown3 hgrow3 hat3))
            go_roundg (R - (j + 1))
            case measure => omega
            case rel =>
              refine ⟨j + 1, by omega, rfl, by go_num, BdR.put HX.out ((HT3.out.alloc _).grown_ HGR.out (fun k hk => (HO4.out.lt k hk).1)) (by have := HX.out; omega) HOW.out ((HP3.out.below (below1 _)).turns (turns_of_grown HGR.out) (fun k hk => ?_))⟩
              have := (HO4.out.lt k hk.symm).1
              rintro (e | e | e) <;> omega
          · have HP3 := Lib.hid hp3; clear hp3
            go_wp2_with (go_at_call 18; refine (num23_any _ _).mono ?_; rintro e w7 ⟨rfl, rfl⟩)
            go_roundg (R - (j + 1))
            case measure => omega
            case rel => exact ⟨j + 1, by omega, rfl, by go_num, L, sz, lk, nd, u, HP3.out, HT3.out, HO4.out, by have := HX.out; omega⟩
        · have hk2 : ((K : Int) == 2) = false := by rw [hk]; rfl
          have hk3 : ((K : Int) == 3) = true := by rw [hk]; rfl
          clear hk hK0 hK1 hK4
          go_upto_region 15 with fail
          obtain ⟨wc, hwc⟩ : ∃ wc, wc = (wr.alloc (.cells #[.int .i64 6, .int .i64 0, .slice none 0 0] 54)).alloc (.cells #[.int .i64 (a : Int), .int .i64 (q : Int)] 3) := ⟨_, rfl⟩
          rw [← hwc]
          have hND : Hid (NdR w wr b cb gb n u L sz lk nd (.slice (some ⟨g2, 0, none⟩) X cv) wc) := Lib.hid (by
            rw [hwc]
            exact NdR.mk (xs := []) HP.out HT.out HO2.out (below2 _ _) ((Blk.new _ _ _).alloc _) (.inr (.inr (.inl ⟨rfl, rfl, rfl⟩))) (IntSl.nil _ _) (fun a ha => by simp at ha))
          clear hwc
          clear c0 c4
          obtain ⟨kd, m, A2, cap2, xs, hbx, hok, hsl, hx, hp2, ht2, hown2⟩ := hND.out
          have x0 := hbx.cell 0; have x1 := hbx.cell 1; have x2 := hbx.cell 2
          simp at x0 x1 x2
          have hput := hp2.put hn0 hn hok hsl hx
          have HPT := Lib.hid hput; have HT2 := Lib.hid ht2; have HO3 := Lib.hid hown2
          have hzc := ht2.size
          clear hbx hok hsl hx hp2 ht2 hown2 hND hput
          go_wp2_with fail
          refine HPT.out.mono ?_
          rintro e w2 ⟨ht3, hcase⟩
          have HT3 := Lib.hid (HT2.out.trans ht3)
          have hz3 := (HT2.out.trans ht3).size
          have hown3 := own_turns HO3.out ht3 (fun k hk => by have := (HO3.out.lt k hk).1; rintro (e | e | e) <;> omega)
          have HO4 := Lib.hid hown3
          clear hown3 ht3 x0 x1 x2
          rcases hcase with ⟨_, rfl, hp3⟩ | ⟨_, rfl, hp3⟩
          · have HP3 := Lib.hid hp3; clear hp3
            have HOX : Hid (w2.ownsRow w.heap.size 3 1 (.slice (some ⟨g2, 0, none⟩) X cv) X ((ints L).map (Value.int .i64))) := Lib.hid (by have := HO4.out; rwa [← HX.out] at this)
            go_wp2_with (first | (go_at_call 18; refine (num23_any _ _).mono ?_; rintro e w7 ⟨rfl, rfl⟩) | (at_builtin; refine wpList_append_lies _ rfl (.tmp 99) (.tmp 101) 22 rfl w.heap.size 3 i0 (.int .i64 0) 1 8 Try.underlying22 hi hz0 hzs hzb rfl (by decide) (.slice (some ⟨g2, 0, none⟩) X cv) X ((ints L).map (Value.int .i64)) rfl (HOX.out.alloc _) ⟨w2.heap.size, 0, none⟩ 1 1 [.int .i64 (u : Int)] rfl rfl (cell_one_new _ _ _) (by simp [Value.oneCell']) (by decide) (by unfold maxLen; omega) (by omega) (by simp; omega) (w2.heap.size + 1) (by simp) ?_; intro g3 cap3 w3 hown3 hgrow3 hat3 hglt3; have HOW := Lib.hid hown3; have HGR := Lib.hid hgrow3; clear hown3 hgrow3 hat3))
            go_roundg (R - (j + 1))
            case measure => omega
            case rel =>
              refine ⟨j + 1, by omega, rfl, by go_num, BdR.put HX.out ((HT3.out.alloc _).grown_ HGR.out (fun k hk => (HO4.out.lt k hk).1)) (by have := HX.out; omega) HOW.out ((HP3.out.below (below1 _)).turns (turns_of_grown HGR.out) (fun k hk => ?_))⟩
              have := (HO4.out.lt k hk.symm).1
              rintro (e | e | e) <;> omega
          · have HP3 := Lib.hid hp3; clear hp3
            go_wp2_with (go_at_call 18; refine (num23_any _ _).mono ?_; rintro e w7 ⟨rfl, rfl⟩)
            go_roundg (R - (j + 1))
            case measure => omega
            case rel => exact ⟨j + 1, by omega, rfl, by go_num, L, sz, lk, nd, u, HP3.out, HT3.out, HO4.out, by have := HX.out; omega⟩
    · obtain ⟨X, hX⟩ : ∃ X, X = L.length := ⟨_, rfl⟩
      have hjR : j = R := by omega
      subst hjR
      rw [← hX]
      have hXj : X ≤ j := by rw [hX]; exact hLj
      have hi1 : ¬ (j : Int) < (j : Int) := by omega
      have hown2 : wr.ownsRow w.heap.size 3 1 (.slice Av X cv) L.length ((ints L).map (Value.int .i64)) := by rw [hX]; exact hown
      have HP := Lib.hid hp; have HT := Lib.hid ht; have HO := Lib.hid hown2; have HX := Lib.hid hX; have HLJ := Lib.hid hLj
      clear hp ht hown hown2 hX hLj
      go_wp2_with fail
      obtain ⟨w1, hw1⟩ : ∃ x, x = wr := ⟨_, rfl⟩
      rw [← hw1] at HP HT HO ⊢
      clear hw1
      go_loopg [13] j (fun gk i wr => ∃ q : Nat, q ≤ j ∧ gk = j - q ∧ i = .int .i64 q ∧ ∃ lk2, Hp wr b cb gb n u L sz lk2 nd ∧ Turns (In3 b cb gb) w wr ∧ wr.ownsRow w.heap.size 3 1 (.slice Av X cv) L.length ((ints L).map (Value.int .i64)))
      case atStart => exact ⟨0, Nat.zero_le _, rfl, rfl, lk, HP.out, HT.out, HO.out⟩
      case round =>
        obtain ⟨q, hq, rfl, rfl, lk2, hp, ht, hown⟩ := hrel
        have HP2 := Lib.hid hp; have HT2 := Lib.hid ht; have HO2 := Lib.hid hown
        by_cases hlt : q < j
        · have hi2 : (q : Int) < (j : Int) := by omega
          by_cases hX0 : 0 < X
          · have hX1 : (0 : Int) < (X : Int) := by omega
            have helt : ∃ g o y, A = some ⟨g, o, none⟩ ∧ g < w00.heap.size ∧ ActCells w00 g (o + q * 7) y := by
              obtain ⟨_, _, hx⟩ := HL.out
              obtain ⟨g, o, ha, hg, hc⟩ := hx (by rw [← HR.out]; omega)
              exact ⟨g, o, _, ha, hg, hc q (by rw [← HR.out]; exact hlt)⟩
            obtain ⟨g, o, x, rfl, hg, hc⟩ := helt
            have hbw := below_w00 HB0.out h1 h2 h3 ht
            have ec : ∀ p, wr.cell? ⟨g, p, none⟩ = w00.cell? ⟨g, p, none⟩ := fun p => hbw.cell (p := ⟨g, p, none⟩) hg
            have c0 := (ec _).trans hc.c0; have c1 := (ec _).trans hc.c1; have c2 := (ec _).trans hc.c2
            have hgw : g < wr.heap.size := Nat.lt_of_lt_of_le hg hbw.size
            by_cases hk : x.k.tmod 3 = 0
            · have hkb : (x.k.tmod 3 == 0) = true := by simp [hk]
              obtain ⟨na, hwa, hna, hna2⟩ := pick_mod2 x.at_ X hX0 (by omega)
              obtain ⟨nb, hwb, hnb, hnb2⟩ := pick_mod2 x.tt X hX0 (by omega)
              have HWA := Lib.hid hwa; have HWB := Lib.hid hwb; have HNA := Lib.hid hna; have HNB := Lib.hid hnb
              clear hwa hwb hna hnb
              have hxl := HX.out
              have hO3 : wr.ownsRow w.heap.size 3 1 (.slice Av X cv) X ((ints L).map (Value.int .i64)) := by rw [← hxl] at hown; exact hown
              obtain ⟨g2, hAv, hg2, hg3, ca⟩ := own_elt (xs := ints L) hO3 (j := na) (z := (L[na]'(by omega) : Nat)) (by simp [ints]; exact ⟨_, List.getElem?_eq_getElem _, rfl⟩)
              obtain ⟨g2', hAv', _, _, cb_⟩ := own_elt (xs := ints L) hO3 (j := nb) (z := (L[nb]'(by omega) : Nat)) (by simp [ints]; exact ⟨_, List.getElem?_eq_getElem _, rfl⟩)
              subst hAv
              injection hAv' with e1
              injection e1 with e1
              subst e1
              have hst := (hp.below (Below.refl _ _).drew).stand hn0 hn (p := L[nb]'(by omega)) (q := L[na]'(by omega)) (List.getElem_mem _) (List.getElem_mem _)
              obtain ⟨a, ha⟩ : ∃ a, a = L[na]'(by omega) := ⟨_, rfl⟩
              obtain ⟨y, hy⟩ : ∃ q, q = L[nb]'(by omega) := ⟨_, rfl⟩
              rw [← ha] at ca; rw [← hy] at cb_
              rw [← ha, ← hy] at hst
              have HST := Lib.hid hst
              clear ha hy hxl hst hO3 hp ht hown hbw ec hc hk
              go_upto_region 22 with fail
              have hXne : ¬ (X : Int) = 0 := by omega
              have hXne2 : ¬ X = 0 := by omega
              have na0 : (0 : Int) ≤ (na : Int) := Int.natCast_nonneg _
              have na1 : (na : Int) < (X : Int) := by omega
              have nb0 : (0 : Int) ≤ (nb : Int) := Int.natCast_nonneg _
              have nb1 : (nb : Int) < (X : Int) := by omega
              have q0 : (0 : Int) ≤ (q : Int) := Int.natCast_nonneg _
              have hwa := HWA.out; have hwb := HWB.out; have hna := HNA.out; have hnb := HNB.out
              go_still_tail 35, (by kernel_rfl)
              change wpList _ _ _ _ _ wr.drew
              clear hwa hwb hna hnb hXne2 ca cb_ c0 c1 c2
              go_wp2_with fail
              refine HST.out.mono ?_
              rintro e w2 ⟨rfl, ht3, hp3⟩
              have HP3 := Lib.hid hp3
              have HT3 := Lib.hid (HT2.out.drew.trans ht3)
              have HO3 := Lib.hid (own_turns (own_drew HO2.out) ht3 (fun k hk => by have := (HO2.out.lt k hk).1; rintro (e | e | e) <;> omega))
              clear ht3 hp3
              go_wp2_with fail
              go_roundg (j - (q + 1))
              case measure => omega
              case rel => exact ⟨q + 1, by omega, rfl, by go_num, _, HP3.out, HT3.out, HO3.out⟩
            · have hkb : (x.k.tmod 3 == 0) = false := by simp [hk]
              clear hp ht hown hbw ec hc hk
              go_wp2_with fail
              go_roundg (j - (q + 1))
              case measure => omega
              case rel => exact ⟨q + 1, by omega, rfl, by go_num, lk2, HP2.out, HT2.out, HO2.out⟩
          · have hX1 : ¬ (0 : Int) < (X : Int) := by omega
            clear hp ht hown
            go_wp2_with fail
            go_ret
            exact ⟨_, rfl, L, sz, lk2, nd, u, HP2.out, HT2.out, HO2.out, HLJ.out⟩
        · have hi2 : ¬ (q : Int) < (j : Int) := by omega
          clear hp ht hown
          go_wp2_with fail
          go_ret
          exact ⟨_, rfl, L, sz, lk2, nd, u, HP2.out, HT2.out, HO2.out, HLJ.out⟩
end Go.Proofs.Ytfeghobfkgimfaa
