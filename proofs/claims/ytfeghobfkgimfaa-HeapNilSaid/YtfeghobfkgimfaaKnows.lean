/- knows: two numbers, of which one is collected: it answers true. -/
import Derived.Test.YtfeghobfkgimfaaHp
namespace Go.Proofs.Ytfeghobfkgimfaa
open Go.RowKit Go.Shelf

theorem below_of_turns {B b cb gb : Nat} {w w' : World} (h : Turns (In3 b cb gb) w w') (h1 : B ≤ b) (h2 : B ≤ cb) (h3 : B ≤ gb) (hB : B ≤ w.heap.size) : Below B w w' :=
  ⟨h.os, h.tape, h.output, h.size, fun k hk => h.block k (Nat.lt_of_lt_of_le hk hB) (by rintro (e | e | e) <;> omega)⟩

set_option maxHeartbeats 400000 in
theorem num23_any (x : Int) (w : World) :
    Calls Try.prog 18 #[.int .i64 x] w fun e w' => e = .returned (.int .i64 x) ∧ w = w' := by
  go_enter Try.func18, Try.ntmps18
  go_wp2
  go_ret
  exact ⟨rfl, rfl⟩

theorem isl_nil (S : Nat → Prop) (w : World) : IntSl S w none 0 [] := ⟨Nat.le_refl _, fun h => by simp at h⟩

theorem isl_alloc (S : Nat → Prop) (w : World) (xs : List Int) (t : TypeId) (hS : ¬ S w.heap.size) : IntSl S (w.alloc (.cells (xs.map (Value.int .i64)).toArray t)) (some ⟨w.heap.size, 0, none⟩) xs.length xs := by
  refine ⟨Nat.le_refl _, fun _ => ⟨w.heap.size, 0, rfl, by simp, hS, fun j hj => ?_⟩⟩
  have h := (Blk.new w t (xs.map (Value.int .i64)).toArray).cell (0 + j)
  rw [h]; simp [hj]

set_option maxRecDepth 100000 in
set_option maxHeartbeats 2000000 in
theorem knows_any (w : World) : Calls Try.prog 16 #[] w fun e w' => e = .returned (.bool true) ∧ Below w.heap.size w w' := by
  have HN := Lib.hid (new_any 10 w (by decide) (by decide))
  go_enter Try.func16, Try.ntmps16
  go_wp2_with fail
  refine HN.out.mono ?_
  intro e w1 hN
  obtain ⟨b, cb, gb, rfl, h1, h2, h3, hB1, hp1⟩ := hN.hp
  clear hN
  have HB1 := Lib.hid hB1
  have hs1 := hB1.size
  have hput1 := hp1.put (by decide) (by decide) (k := 1) (m := 7) (xs := []) (.inl ⟨rfl, rfl⟩) (isl_nil _ _) (fun a ha => by simp at ha)
  have HP1 := Lib.hid hput1; clear hput1 hp1 hB1
  go_wp2_with fail
  refine HP1.out.mono ?_
  rintro e w2 ⟨ht2, ⟨_, rfl, hp2⟩ | ⟨hbad, _, _⟩⟩
  case inr => exact absurd hbad (by decide)
  have hp2 : Hp w2 b cb gb 10 2 [0] (upd (fun _ => 0) 0 2) (upd id 0 0) (upd (fun _ => (0, 0, [])) 0 (1, 7, [])) := hp2
  have hB2 := HB1.out.trans (below_of_turns ht2 h1 h2 h3 hs1)
  have hs2 := hB2.size
  have HB2 := Lib.hid hB2
  have hput2 := hp2.put (by decide) (by decide) (k := 1) (m := 8) (xs := []) (.inl ⟨rfl, rfl⟩) (isl_nil _ _) (fun a ha => by simp at ha)
  have HP2 := Lib.hid hput2; clear hput2 hp2 hB2 ht2
  go_wp2_with fail
  refine HP2.out.mono ?_
  rintro e w3 ⟨ht3, ⟨_, rfl, hp3⟩ | ⟨hbad, _, _⟩⟩
  case inr => exact absurd hbad (by decide)
  have hp3 : Hp w3 b cb gb 10 4 [0, 2] (upd (upd (fun _ => 0) 0 2) 2 2) (upd (upd id 0 0) 2 2) (upd (upd (fun _ => (0, 0, [])) 0 (1, 7, [])) 2 (1, 8, [])) := hp3
  have hB3 := HB2.out.trans (below_of_turns ht3 h1 h2 h3 hs2)
  have hs3 := hB3.size
  have HB3 := Lib.hid hB3
  have hl3 := hp3.lts
  have hlt : w.heap.size < w3.heap.size := by omega
  obtain ⟨W3, hW3⟩ : ∃ W, W = w3.alloc (.cells #[.int .i64 2, .int .i64 2] 3) := ⟨_, rfl⟩
  have hp3' : Hp W3 b cb gb 10 4 [0, 2] (upd (upd (fun _ => 0) 0 2) 2 2) (upd (upd id 0 0) 2 2) (upd (upd (fun _ => (0, 0, [])) 0 (1, 7, [])) 2 (1, 8, [])) := by
    rw [hW3]; exact hp3.below (below1 _)
  have hIS : IntSl (In3 b cb gb) W3 (some ⟨w3.heap.size, 0, none⟩) 2 (ints [2, 2]) := by
    rw [hW3]; exact isl_alloc _ w3 [2, 2] 3 (by rintro (e | e | e) <;> omega)
  have hcol := hp3'.collect (by decide) (by decide) (rs := [2, 2]) hIS (by simp) (by decide)
  have hcol' : Calls Try.prog 25 #[.pointer (some ⟨b, 0, none⟩), .slice (some ⟨w3.heap.size, 0, none⟩) 2 2] W3 _ := hcol
  have HC := Lib.hid hcol'; clear hcol hcol' hIS hp3' hp3 hB3 ht3
  go_upto_region 4 with fail
  go_wp2_with fail
  rw [← hW3]
  have hB4 : Below w.heap.size w W3 := by rw [hW3]; exact HB3.out.alloc hs3 _
  have hs4 := hB4.size
  have HB4 := Lib.hid hB4
  clear hW3 hB4
  refine HC.out.mono ?_
  rintro e w4 ⟨out, M, acc, u2, rfl, ht4, hown, hu2, hl, hb, _, _, _, _, hp4⟩
  have hB5 := HB4.out.trans (below_of_turns ht4 h1 h2 h3 hs4)
  have hs5 := hB5.size
  have hMa : (([2] : List Nat), ([[]] : List (List Nat))) = (M, acc) := by rw [← hb]; decide
  injection hMa with hM hacc
  subst hM hacc
  have hown2 : w4.ownsRow W3.heap.size 3 1 out 2 (([0, 0] : List Int).map (Value.int .i64)) := hown
  obtain ⟨A, cp, rfl, hi⟩ := ints_own (n := 2) rfl hown2
  have hu2' : u2 = 2 := by have := hp4.tiles.total; rw [← this]; decide
  subst hu2'
  have hget := hp4.get (by decide) (by decide) (p := 0) (by decide) rfl
  have hget' : Calls Try.prog 28 #[.pointer (some ⟨b, 0, none⟩), .int .i64 0] w4 (GetV 1 8 [] w4) := hget
  obtain ⟨g, o, rfl, hg, _, hcell⟩ := hi.2 (by decide)
  have x0 : w4.cell? ⟨g, o, none⟩ = some (.int .i64 0) := hcell 0 (by decide)
  have x1 : w4.cell? ⟨g, o + 1, none⟩ = some (.int .i64 0) := hcell 1 (by decide)
  have HP4 := Lib.hid hp4; have HG := Lib.hid hget'; have HB5 := Lib.hid hB5
  have hcap := hi.1
  clear hp4 hget hget' hB5 hcell hi hown hown2 hb hl ht4
  go_wp2_with fail
  refine HG.out.mono ?_
  rintro e w5 ⟨A5, cap5, rfl, hi5, hb5⟩
  have hs5b := hb5.size
  have HB6 := Lib.hid (HB5.out.trans (hb5.mono hs5))
  have HP5 := Lib.hid (HP4.out.below hb5)
  have y0 := (hb5.cell (p := ⟨g, o, none⟩) hg).trans x0
  have y1 := (hb5.cell (p := ⟨g, o + 1, none⟩) hg).trans x1
  clear x0 x1 hi5 hb5
  go_upto_region 6 with fail
  obtain ⟨W6, hW6⟩ : ∃ W, W = w5.alloc (.cells #[.int .i64 1, .int .i64 8, .slice A5 0 cap5] 54) := ⟨_, rfl⟩
  rw [← hW6]
  have hb6 : Below w5.heap.size w5 W6 := by rw [hW6]; exact below1 _
  have hp6 := HP5.out.below hb6
  have HU := Lib.hid (hp6.used (by decide)); have HLn := Lib.hid (hp6.len (by decide)); have HSz := Lib.hid (hp6.size (by decide))
  have z0 := (hb6.cell (p := ⟨g, o, none⟩) (Nat.lt_of_lt_of_le hg hs5b)).trans y0
  have z1 := (hb6.cell (p := ⟨g, o + 1, none⟩) (Nat.lt_of_lt_of_le hg hs5b)).trans y1
  have z2 : W6.cell? ⟨w5.heap.size, 1, none⟩ = some (.int .i64 8) := by rw [hW6]; exact (Blk.new _ _ _).cell 1
  have HB7 := Lib.hid (HB6.out.trans (hb6.mono (show w.heap.size ≤ w5.heap.size by omega)))
  clear y0 y1 hW6 hb6 hp6
  go_wp2_with (first | (go_at_call 18; refine (num23_any _ _).mono ?_; rintro e w7 ⟨rfl, rfl⟩) | (go_at_call 20; refine HU.out.mono ?_; rintro e w7 ⟨rfl, rfl⟩) | (go_at_call 19; refine HLn.out.mono ?_; rintro e w7 ⟨rfl, rfl⟩) | (go_at_call 32; refine HSz.out.mono ?_; rintro e w7 ⟨rfl, rfl⟩))
  go_ret
  exact ⟨rfl, HB7.out⟩
end Go.Proofs.Ytfeghobfkgimfaa
