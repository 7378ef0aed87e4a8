/- HeapFull: it answers true. -/
import Derived.Test.YtfeghobfkgimfaaActs
import Derived.Deep.RegionHeld3
namespace Go.Proofs.Ytfeghobfkgimfaa
open Go.RowKit Go.Shelf

theorem ActsSl.below {w w' : World} {A : Option Addr} {cap : Nat} {l : List ActD} (h : ActsSl w A cap l) (hb : Below w.heap.size w w') : ActsSl w' A cap l := by
  refine ⟨h.1, h.2.1, fun h0 => ?_⟩
  obtain ⟨g, o, hA, hg, hc⟩ := h.2.2 h0
  refine ⟨g, o, hA, Nat.lt_of_lt_of_le hg hb.size, fun i hi => ?_⟩
  have x := hc i hi
  have e : ∀ p, w'.cell? ⟨g, p, none⟩ = w.cell? ⟨g, p, none⟩ := fun p => hb.cell (p := ⟨g, p, none⟩) hg
  exact ⟨(e _).trans x.c0, (e _).trans x.c1, (e _).trans x.c2, (e _).trans x.c3, (e _).trans x.c4, (e _).trans x.c5, (e _).trans x.c6, x.nm, x.rm⟩

theorem tmod_range (z m : Int) (hm : 0 < m) : -m < z.tmod m ∧ z.tmod m < m ∧ 0 ≤ (z.tmod m + m).tmod m ∧ (z.tmod m + m).tmod m < m := by
  have h1 := Int.tmod_lt_of_pos z hm
  have h2 := Int.lt_tmod_of_pos z hm
  have h3 : 0 ≤ z.tmod m + m := by omega
  exact ⟨h2, h1, Int.tmod_nonneg _ h3, Int.tmod_lt_of_pos _ hm⟩
theorem wrap_small {x : Int} (h : -9223372036854775808 ≤ x ∧ x ≤ 9223372036854775807) : wrap64 x = x := by
  unfold wrap64; omega
theorem pick_mod (z m : Int) (hm : 0 < m) (hm2 : m ≤ 1000000) : ∃ n : Nat, (wrap64 (z.tmod m + m)).tmod m = (n : Int) ∧ (n : Int) < m := by
  obtain ⟨h1, h2, h3, h4⟩ := tmod_range z m hm
  rw [wrap_small (by omega)]
  exact ⟨((z.tmod m + m).tmod m).toNat, by omega, by omega⟩

theorem below_grown {B : Nat} {a w w' : World} (h : Below B a w) {row : Option Nat} (k : w.grownBy w' row) (hr : ∀ x, row = some x → B ≤ x) (hB : B ≤ w.heap.size) : Below B a w' :=
  ⟨k.os.trans h.os, k.tape.trans h.tape, k.output.trans h.output, Nat.le_trans h.size k.size, fun i hi => (k.block i (Nat.lt_of_lt_of_le hi hB) (fun e => by have := hr i e.symm; omega)).trans (h.block i hi)⟩
theorem below_alloc' {a w : World} (h : Below a.heap.size a w) (o : Obj) : Below a.heap.size a (w.alloc o) := h.alloc h.size o
theorem IntSl.mono {S T : Nat → Prop} {w : World} {A : Option Addr} {cap : Nat} {xs : List Int} (h : IntSl S w A cap xs) (hT : ∀ g, T g → S g) : IntSl T w A cap xs :=
  ⟨h.1, fun h0 => by obtain ⟨g, o, ha, hg, hs, hx⟩ := h.2 h0; exact ⟨g, o, ha, hg, fun e => hs (hT g e), hx⟩⟩
theorem Hp.set_ {w : World} {b cb gb n u : Nat} {L : List Nat} {sz lk : Nat → Nat} {nd : Nat → Nd} (h : Hp w b cb gb n u L sz lk nd) {g i : Nat} (hg : ¬ In3 b cb gb g) (v : Value) : Hp (w.setCell ⟨g, i, none⟩ v) b cb gb n u L sz lk nd :=
  h.turns (Turns.setCell (S := fun x => x = g) (Turns.refl _ w) (p := ⟨g, i, none⟩) rfl v) (fun x e => by rw [show x = g from e]; exact hg)

theorem Hp.zero {w : World} {b cb gb n u : Nat} {L : List Nat} {sz lk : Nat → Nat} {nd : Nat → Nd} (h : Hp w b cb gb n u L sz lk nd) (hL : L ≠ []) : 0 ∈ L := by
  have h0 : 0 < L.length := List.length_pos_iff.2 hL
  have := h.tiles.place 0 h0
  have e : Adr sz L 0 = 0 := by simp [Adr]
  rw [e] at this
  rw [← this]; exact List.getElem_mem h0

/-- What Put will say of the node that is built. -/
theorem InR.put {W0 wk : World} {b cb gb n u j : Nat} {L : List Nat} {sz lk : Nat → Nat} {nd : Nat → Nd} (h0 : Hp W0 b cb gb n u L sz lk nd) (hn0 : 1 ≤ n) (hn : n ≤ 60) (hj : j ≤ 3) (hjL : 0 < j → L ≠ []) {Av : Option Addr} {cv : Nat}
    (hp : Hp wk b cb gb n u L sz lk nd) (ho : wk.ownsRow (W0.heap.size + 1) 3 1 (.slice Av j cv) j (List.replicate j (.int .i64 0))) :
    Calls Try.prog 21 #[.pointer (some ⟨b, 0, none⟩), .agg #[.int .i64 4, .int .i64 1, .slice Av j cv]] wk fun e w' => Turns (In3 b cb gb) wk w' ∧
      ((u + (3 + j) ≤ n ∧ e = .returned (.tuple #[.int .i64 u, .int .i64 0]) ∧ ∃ L' sz' lk' nd', Hp w' b cb gb n (u + (3 + j)) L' sz' lk' nd') ∨
       (n < u + (3 + j) ∧ e = .returned (.tuple #[.int .i64 0, .int .i64 51]) ∧ Hp w' b cb gb n u L sz lk nd)) := by
  have hl := h0.lts
  obtain ⟨A2, c2, he, hi⟩ := ints_own (n := j) (xs := ints (List.replicate j 0)) (by simp [ints]) (by simpa [ints] using ho)
  injection he with hA hlen hc
  subst hA hc
  have hel : (enc 4 1 (ints (List.replicate j 0))).length = 3 + j := by simp [enc, ints]; omega
  have hput := hp.put hn0 (by omega) (k := 4) (m := 1) (xs := List.replicate j 0) (.inr (.inr (.inr (.inr ⟨rfl, by decide, by decide, by simp [ints]; omega⟩))))
    (hi.mono (fun g hg => by rcases hg with e | e | e <;> omega)) (fun a ha => by
      have := List.mem_replicate.1 ha
      rw [this.2]; exact hp.zero (hjL (by omega)))
  rw [List.length_replicate] at hput
  refine hput.mono ?_
  rintro e w' ⟨ht, h⟩
  rw [hel] at h
  refine ⟨ht, h.elim (fun h => .inl ⟨h.1, h.2.1, _, _, _, _, h.2.2⟩) .inr⟩

/-- Between two appends. -/
def InR (W0 : World) (b cb gb n u : Nat) (L : List Nat) (sz lk : Nat → Nat) (nd : Nat → Nd) (j : Nat) (wk : World) : Prop :=
  (0 < j → L ≠ []) ∧ ∃ v, Hp wk b cb gb n u L sz lk nd ∧ Blk wk W0.heap.size 54 #[.int .i64 4, .int .i64 1, v] ∧ wk.ownsRow (W0.heap.size + 1) 3 1 v j (List.replicate j (.int .i64 0)) ∧ Below W0.heap.size W0 wk

theorem InR.begin {W0 : World} {b cb gb n u : Nat} {L : List Nat} {sz lk : Nat → Nat} {nd : Nat → Nd} (h : Hp W0 b cb gb n u L sz lk nd) : InR W0 b cb gb n u L sz lk nd 0 (W0.alloc (.cells #[.int .i64 4, .int .i64 1, .slice none 0 0] 54)) :=
  ⟨fun h => absurd h (by decide), _, h.below (below1 _), Blk.new _ _ _, World.ownsRow_nil _ _ _ _, below1 _⟩

theorem InR.step {W0 wk w2 : World} {b cb gb n u j : Nat} {L : List Nat} {sz lk : Nat → Nat} {nd : Nat → Nd} {v v' : Value} {o : Obj} (h0 : Hp W0 b cb gb n u L sz lk nd) (hL : L ≠ [])
    (hp : Hp wk b cb gb n u L sz lk nd) (hB : Blk wk W0.heap.size 54 #[.int .i64 4, .int .i64 1, v]) (ho : wk.ownsRow (W0.heap.size + 1) 3 1 v j (List.replicate j (.int .i64 0))) (hb : Below W0.heap.size W0 wk)
    (hown : w2.ownsRow (W0.heap.size + 1) 3 1 v' (j + 1) (List.replicate j (.int .i64 0) ++ [.int .i64 0])) (hg : (wk.alloc o).grownBy w2 v.ownBlock) :
    InR W0 b cb gb n u L sz lk nd (j + 1) (w2.setCell ⟨W0.heap.size, 2, none⟩ v') := by
  have hl := h0.lts
  have hrow : ∀ x, v.ownBlock = some x → W0.heap.size + 1 ≤ x := fun x hx => (ho.lt x hx).1
  have hB2 : Blk w2 W0.heap.size 54 #[.int .i64 4, .int .i64 1, v] := (hB.alloc o).grown hg (fun e => by have := hrow _ e.symm; omega)
  refine ⟨fun _ => hL, v', ?_, ?_, ?_, ?_⟩
  · refine Hp.set_ ((hp.below (below1 o)).turns (turns_of_grown hg) (fun x e => ?_)) ?_ _
    · have := hrow x (Eq.symm e); rintro (e | e | e) <;> omega
    · rintro (e | e | e) <;> omega
  · exact hB2.set_ 2 v'
  · rw [List.replicate_succ']; exact own_set hown (Nat.lt_succ_self _) v'
  · exact below_set (below_grown (below_alloc' hb o) hg (fun x e => by have := hrow x e; omega) (by simp only [World.size_alloc]; have := hb.size; omega)) (Nat.le_refl _) v'

set_option maxRecDepth 100000 in
set_option maxHeartbeats 4000000 in
set_option linter.unusedSimpArgs false in
theorem full_any (z : Int) (A : Option Addr) (cap : Nat) (l : List ActD) (w : World) (h : ActsSl w A cap l) :
    Calls Try.prog 5 #[.int .i64 z, .slice A l.length cap] w fun e w' => e = .returned (.bool true) ∧ Below w.heap.size w w' := by
  have HL := Lib.hid (light_any A cap l w h)
  obtain ⟨i0, hi0, hz0, hz1, hz2⟩ := info_parts Try.info3
  have H := Lib.hid h
  have hm : l.length ≤ maxLen := h.2.1
  clear h
  obtain ⟨R, hR⟩ : ∃ R, R = l.length := ⟨_, rfl⟩
  rw [← hR] at hm HL ⊢
  have HR := Lib.hid hR; clear hR
  unfold maxLen at hm
  go_enter Try.func5, Try.ntmps5
  go_wp2_with (go_at_call 15; refine HL.out.mono ?_; rintro e w1 ⟨bb, rfl, hbb, q, rfl⟩; have HBB := Lib.hid hbb; clear hbb)
  · refine (knows_any _).mono ?_
    rintro e w2 ⟨rfl, hb2⟩
    have HB2 := Lib.hid (hb2 : Below w.heap.size (w.drewN q) w2)
    clear hb2
    obtain ⟨n0, hn, hn1⟩ := pick_mod z 60 (by decide) (by decide)
    obtain ⟨n, hn', hn0, hn2⟩ : ∃ n : Nat, wrap64 ((wrap64 (z.tmod 60 + 60)).tmod 60 + 1) = (n : Int) ∧ 1 ≤ n ∧ n ≤ 60 := ⟨n0 + 1, by rw [hn, wrap_small (by omega)]; omega, by omega, by omega⟩
    clear hn hn1
    have HN := Lib.hid hn'; clear hn'
    have HNew := Lib.hid (new_any n w2 hn0 (by omega))
    go_upto_region 4 with fail
    rw [HN.out]
    go_upto_region 5 with (go_at_call 17; refine HNew.out.mono ?_; intro e w3 hN; obtain ⟨b, cb, gb, rfl, hb, hcb, hgb, hB3, hp3⟩ := hN.hp; clear hN; have HB3 := Lib.hid hB3; have HP3 := Lib.hid hp3; have hs3 := hB3.size; clear hB3 hp3)
    have hs2 := HB2.out.size
    rw [size_drewN] at hs2
    have HB4 : Hid (Below w.heap.size w w3) := Lib.hid (((below_drewN (Below.refl _ w) q).trans HB2.out).trans (HB3.out.mono hs2))
    have hs4 := HB4.out.size
    go_upto_region 8 with (go_at_call 18; refine (num23_any _ _).mono ?_; rintro e w4 ⟨rfl, rfl⟩)
    go_loopg [7] R (fun gk iv wr => ∃ i : Nat, i ≤ R ∧ gk = R - i ∧ iv = .int .i64 i ∧ Below w.heap.size w wr ∧ ∃ u L sz lk nd, Hp wr b cb gb n u L sz lk nd)
    case atStart => exact ⟨0, Nat.zero_le _, rfl, rfl, HB4.out, _, _, _, _, _, HP3.out⟩
    case round =>
      obtain ⟨i, hi, rfl, rfl, hbel, u, L, sz, lk, nd, hp⟩ := hrel
      by_cases hlt : i < R
      · have hi1 : (i : Int) < (R : Int) := by omega
        have helt : ∃ g o y, A = some ⟨g, o, none⟩ ∧ g < w.heap.size ∧ ActCells w g (o + i * 7) y := by
          obtain ⟨_, _, hx⟩ := H.out
          obtain ⟨g, o, ha, hg, hc⟩ := hx (by rw [← HR.out]; omega)
          exact ⟨g, o, _, ha, hg, hc i (by rw [← HR.out]; exact hlt)⟩
        obtain ⟨g, o, x, rfl, hg, hc⟩ := helt
        obtain ⟨J, hJ, hJ4⟩ := pick_mod x.at_ 4 (by decide) (by decide)
        have c1 := hc.c1
        have HC1 := Lib.hid c1; have HJ := Lib.hid hJ; have HP := Lib.hid hp; have HBL := Lib.hid hbel
        have hsw := hbel.size
        clear hc c1 hJ hp hbel
        obtain ⟨W0, rfl⟩ : ∃ W0, W0 = wr := ⟨wr, rfl⟩
        have HBG := Lib.hid (InR.begin HP.out)
        have hl0 := HP.out.lts
        go_upto_block 2 with fail
        go_cut [9] (fun s9 wc => ∃ j, j ≤ 3 ∧ InR W0 b cb gb n u L sz lk nd j wc)
        case first =>
          go_upto_region 12 with fail
          go_loopg [9] J (fun gk jv wk => ∃ j : Nat, j ≤ J ∧ gk = J - j ∧ jv = .int .i64 j ∧ InR W0 b cb gb n u L sz lk nd j wk)
          case atStart => exact ⟨0, Nat.zero_le _, rfl, rfl, HBG.out⟩
          case round =>
            obtain ⟨j, hj, rfl, rfl, hin⟩ := hrel
            obtain ⟨h0L, v, hpk, hBk, hok, hbk⟩ := id hin
            have hc1 : wr.cell? ⟨g, o + i * 7 + 1, none⟩ = some (.int .i64 x.at_) := (hbk.cell (p := ⟨g, o + i * 7 + 1, none⟩) (Nat.lt_of_lt_of_le hg hsw)).trans ((HBL.out.cell (p := ⟨g, o + i * 7 + 1, none⟩) hg).trans HC1.out)
            have hJ := HJ.out
            have hlen := hpk.len hn0
            obtain ⟨c, hcL⟩ : ∃ c, c = L.length := ⟨_, rfl⟩
            rw [← hcL] at hlen
            have HCL := Lib.hid hcL; have HLen := Lib.hid hlen; clear hlen hcL
            by_cases hjJ : j < J
            · have hj1 : (j : Int) < (J : Int) := by omega
              by_cases hL0 : c = 0
              · have hl1 : ¬ (0 : Int) < (c : Int) := by omega
                have HL0 := Lib.hid hL0; clear hL0
                have HIN := Lib.hid hin; clear hin h0L hpk hBk hok hbk
                go_wp2_with (go_at_call 19; refine HLen.out.mono ?_; rintro e w7 ⟨rfl, rfl⟩)
                go_meet
                exact ⟨j, by omega, HIN.out⟩
              · have hl1 : (0 : Int) < (c : Int) := by omega
                have hLn : L ≠ [] := fun e => hL0 (by rw [HCL.out, e]; rfl)
                have d2 := hBk.cell 2; have d2f := hBk.frozen 2
                simp at d2
                have hszk : W0.heap.size + 1 ≤ wr.heap.size := hBk.lt
                have HIN := Lib.hid hin; have HPK := Lib.hid hpk; have HBK := Lib.hid hBk; have HOK := Lib.hid hok; have HBLK := Lib.hid hbk; have HLN := Lib.hid hLn
                clear hin h0L hpk hBk hok hbk hLn hL0
                go_wp2_with (first | (go_at_call 19; refine HLen.out.mono ?_; rintro e w7 ⟨rfl, rfl⟩) | (at_builtin; refine wpList_append_own _ rfl _ _ 22 rfl (W0.heap.size + 1) 3 i0 (.int .i64 0) 1 8 Try.underlying22 hi0 hz0 hz1 hz2 rfl (by decide) _ _ _ rfl (HOK.out.alloc _) ⟨wr.heap.size, 0, none⟩ 1 1 [.int .i64 0] rfl rfl (cell_one_new _ _ _) (by simp [Value.oneCell']) (by unfold maxLen; omega) (by omega) (by simp; omega) ?_; intro v' w2 hown' hgrow _; obtain ⟨Av, cv, rfl⟩ := own_slice hown'; have hB2 := (HBK.out.alloc _).grown hgrow (fun e => by have := (HOK.out.lt _ e.symm).1; omega); have x2 := hB2.cell 2; have x2f := hB2.frozen 2; simp at x2))
                go_roundg (J - (j + 1))
                case measure => omega
                case rel =>
                  exact ⟨j + 1, by omega, rfl, by go_num, InR.step HP.out HLN.out HPK.out HBK.out HOK.out HBLK.out hown' hgrow⟩
            · have hj1 : ¬ (j : Int) < (J : Int) := by omega
              have HIN := Lib.hid hin; clear hin h0L hpk hBk hok hbk
              go_wp2_with fail
              go_meet
              exact ⟨j, by omega, HIN.out⟩
        case rest =>
          obtain ⟨j, hj3, hjL, v, hpk, hBk, hok, hbk⟩ := hcut
          obtain ⟨Av, cv, rfl⟩ := own_slice hok
          obtain ⟨W1, rfl⟩ : ∃ W1, W1 = wc := ⟨wc, rfl⟩
          have d0 := hBk.cell 0; have d1 := hBk.cell 1; have d2 := hBk.cell 2
          simp at d0 d1 d2
          have HPut := Lib.hid (InR.put HP.out hn0 hn2 hj3 hjL hpk hok)
          have hlen := hpk.len hn0
          obtain ⟨c, hcL⟩ : ∃ c, c = L.length := ⟨_, rfl⟩
          rw [← hcL] at hlen
          have HCL := Lib.hid hcL; have HLen := Lib.hid hlen; have HUsed := Lib.hid (hpk.used hn0)
          have hun := hpk.hu
          have hs5 := hbk.size
          have HBK := Lib.hid hBk; have HBLK := Lib.hid (HBL.out.trans (hbk.mono hsw)); have HPK := Lib.hid hpk
          have hltb : W0.heap.size < W1.heap.size := hBk.lt
          clear hlen hcL hok hbk hpk hjL hBk
          obtain ⟨cj, hcj⟩ : ∃ cj, cj = 3 + j := ⟨_, rfl⟩
          have HPut2 := HPut.out
          rw [← hcj] at HPut2
          have hcells : ∀ W : World, Calls Try.prog 22 #[.agg #[.int .i64 4, .int .i64 1, .slice Av j cv]] W fun e w' => e = .returned (.int .i64 cj) ∧ W.alloc (.cells #[.int .i64 4, .int .i64 1, .slice Av j cv] 54) = w' := fun W => by
            have := cells_any 4 1 Av j cv (by omega) W
            rw [cellsF_con, if_pos (by omega), show 3 + j = cj from hcj.symm] at this
            exact this
          have HCells := Lib.hid hcells
          have HPut := Lib.hid HPut2
          have hcj6 : cj ≤ 6 := by omega
          have HCJ := Lib.hid hcj
          clear hcells HPut2 hcj
          go_wp2_with (first | (go_at_call 20; refine HUsed.out.mono ?_; rintro e w7 ⟨rfl, rfl⟩) | (go_at_call 19; refine HLen.out.mono ?_; rintro e w7 ⟨rfl, rfl⟩))
          refine HPut.out.mono ?_
          clear HUsed HLen
          rintro e w5 ⟨ht5, ⟨hf, rfl, L', sz', lk', nd', hp5⟩ | ⟨hf, rfl, hp5⟩⟩
          · have hb5 : Below w.heap.size w w5 := HBLK.out.trans (below_of_turns ht5 (by omega) (by omega) (by omega) (by omega))
            have hBk5 := HBK.out.turns ht5 (by rintro (e | e | e) <;> omega)
            have d0 := hBk5.cell 0; have d1 := hBk5.cell 1; have d2 := hBk5.cell 2
            simp at d0 d1 d2
            have hltG : W0.heap.size < w5.heap.size := hBk5.lt
            obtain ⟨u', hu'⟩ : ∃ u', u' = u + cj := ⟨_, rfl⟩
            rw [← hu'] at hp5
            have hused : ∀ W, Below w5.heap.size w5 W → Calls Try.prog 20 #[.pointer (some ⟨b, 0, none⟩)] W fun e w' => e = .returned (.int .i64 u') ∧ W = w' := fun W hb => (hp5.below hb).used hn0
            have e1 : decide ((n : Int) < (u : Int) + (cj : Int)) = false := by simp; omega
            have e2 : ((u' : Int) != (u : Int) + (cj : Int)) = false := by simp; omega
            have e3 : IntKind.i64.wrap ((u : Int) + (cj : Int)) = (u : Int) + (cj : Int) := IntWalk.i64_in _ (by omega)
            have HU := Lib.hid hused; have HP5 := Lib.hid hp5; have HB5 := Lib.hid hb5; have hu5 : w5.heap.size = w5.heap.size := rfl
            clear hused hp5 hb5 hBk5 ht5 hu' hu5
            go_upto_region 18 with fail
            go_cut [119] from 74 to 119 (fun s wc => s = .bool false ∧ Below w5.heap.size w5 wc)
            case first =>
              have hk : ∀ W o, (W.cell? ⟨W0.heap.size, 0, none⟩ = some (.int .i64 4) ∧ W.cell? ⟨W0.heap.size, 1, none⟩ = some (.int .i64 1) ∧ W.cell? ⟨W0.heap.size, 2, none⟩ = some (.slice Av j cv) ∧ Below w5.heap.size w5 W) →
                  (World.alloc W o).cell? ⟨W0.heap.size, 0, none⟩ = some (.int .i64 4) ∧ (World.alloc W o).cell? ⟨W0.heap.size, 1, none⟩ = some (.int .i64 1) ∧ (World.alloc W o).cell? ⟨W0.heap.size, 2, none⟩ = some (.slice Av j cv) ∧ Below w5.heap.size w5 (World.alloc W o) := fun W o hS =>
                have hlt := Nat.lt_of_lt_of_le hltG hS.2.2.2.size
                ⟨(cell_old1 hlt).trans hS.1, (cell_old1 hlt).trans hS.2.1, (cell_old1 hlt).trans hS.2.2.1, below_alloc' hS.2.2.2 o⟩
              have HK := Lib.hid hk
              have HS0 := Lib.hid (show (w5.drew.cell? ⟨W0.heap.size, 0, none⟩ = some (.int .i64 4) ∧ w5.drew.cell? ⟨W0.heap.size, 1, none⟩ = some (.int .i64 1) ∧ w5.drew.cell? ⟨W0.heap.size, 2, none⟩ = some (.slice Av j cv) ∧ Below w5.heap.size w5 w5.drew) from ⟨d0, d1, d2, (Below.refl _ _).drew⟩)
              have HS1 := Lib.hid (fun o => (show (w5.alloc o).drew.cell? ⟨W0.heap.size, 0, none⟩ = some (.int .i64 4) ∧ (w5.alloc o).drew.cell? ⟨W0.heap.size, 1, none⟩ = some (.int .i64 1) ∧ (w5.alloc o).drew.cell? ⟨W0.heap.size, 2, none⟩ = some (.slice Av j cv) ∧ Below w5.heap.size w5 (w5.alloc o).drew from hk w5.drew o HS0.out))
              have HS2 := Lib.hid (fun o o' => (show ((w5.alloc o).alloc o').drew.cell? ⟨W0.heap.size, 0, none⟩ = some (.int .i64 4) ∧ ((w5.alloc o).alloc o').drew.cell? ⟨W0.heap.size, 1, none⟩ = some (.int .i64 1) ∧ ((w5.alloc o).alloc o').drew.cell? ⟨W0.heap.size, 2, none⟩ = some (.slice Av j cv) ∧ Below w5.heap.size w5 ((w5.alloc o).alloc o').drew from hk (w5.alloc o).drew o' (HS1.out o)))
              clear hk
              refine wp_region_held_drew (S := (fun W => W.cell? ⟨W0.heap.size, 0, none⟩ = some (.int .i64 4) ∧ W.cell? ⟨W0.heap.size, 1, none⟩ = some (.int .i64 1) ∧ W.cell? ⟨W0.heap.size, 2, none⟩ = some (.slice Av j cv) ∧ Below w5.heap.size w5 W)) (by kernel_rfl) HS0.out (fun hHeld => ?_)
              refine wpAnyH_take (i := 0) (v := ?_) rfl (by kernel_rfl) (by kernel_rfl) (by kernel_rfl) (fun _ _ _ h => h) (Or.inl ⟨by rfl, ?_⟩) hHeld ?_
              rotate_left
              · (intro wS hSw; (try dsimp only at hSw); go_simp; try with_reducible rfl)
              try simp only [Act.put, List.getElem_toArray, List.getElem_cons_zero, List.getElem_cons_succ, List.setIfInBounds_toArray, List.set_cons_zero, List.set_cons_succ]
              refine wpAnyH_take (i := 3) (v := ?_) rfl (by kernel_rfl) (by kernel_rfl) (by kernel_rfl) (fun _ _ _ h => h) (Or.inl ⟨by rfl, ?_⟩) hHeld ?_
              rotate_left
              · (intro wS hSw; (try dsimp only at hSw); go_simp; try with_reducible rfl)
              try simp only [Act.put, List.getElem_toArray, List.getElem_cons_zero, List.getElem_cons_succ, List.setIfInBounds_toArray, List.set_cons_zero, List.set_cons_succ]
              refine wpAnyH_take (i := 4) (v := ?_) rfl (by kernel_rfl) (by kernel_rfl) (by kernel_rfl) (fun _ _ _ h => h) (Or.inl ⟨by rfl, ?_⟩) hHeld ?_
              rotate_left
              · (intro wS hSw; (try dsimp only at hSw); go_simp; try with_reducible rfl)
              try simp only [Act.put, List.getElem_toArray, List.getElem_cons_zero, List.getElem_cons_succ, List.setIfInBounds_toArray, List.set_cons_zero, List.set_cons_succ]
              refine wpAnyH_take (i := 7) (v := ?_) rfl (by kernel_rfl) (by kernel_rfl) (by kernel_rfl) (fun _ _ _ h => h) (Or.inl ⟨by rfl, ?_⟩) hHeld ?_
              rotate_left
              · (intro wS hSw; (try dsimp only at hSw); go_simp; try with_reducible rfl)
              try simp only [Act.put, List.getElem_toArray, List.getElem_cons_zero, List.getElem_cons_succ, List.setIfInBounds_toArray, List.set_cons_zero, List.set_cons_succ]
              refine wpAnyH_ready (rs := [1]) (by kernel_rfl) (by simp) ?_
              refine AllReadyH.cons rfl (fun K hK => ?_) AllReadyH.nil
              try simp only [List.getElem_toArray, List.getElem_cons_zero, List.getElem_cons_succ, List.setIfInBounds_toArray, List.set_cons_zero, List.set_cons_succ]
              try go_simp
              refine (num23_any _ _).mono ?_; rintro e w7 ⟨rfl, rfl⟩
              try go_simp
              refine hK.out _ _ ?_ (fun hHeld => ?_)
              · first | assumption | exact HS0.out | exact HS1.out _ | exact HS2.out _ _
              try simp only [Act.put, List.getElem_toArray, List.getElem_cons_zero, List.getElem_cons_succ, List.setIfInBounds_toArray, List.set_cons_zero, List.set_cons_succ]
              refine wpAnyH_take (i := 2) (v := ?_) rfl (by kernel_rfl) (by kernel_rfl) (by kernel_rfl) (fun _ _ _ h => h) (Or.inl ⟨by rfl, ?_⟩) hHeld ?_
              rotate_left
              · (intro wS hSw; (try dsimp only at hSw); go_simp; try with_reducible rfl)
              try simp only [Act.put, List.getElem_toArray, List.getElem_cons_zero, List.getElem_cons_succ, List.setIfInBounds_toArray, List.set_cons_zero, List.set_cons_succ]
              refine wpAnyH_ready (rs := [5]) (by kernel_rfl) (by simp) ?_
              refine AllReadyH.cons rfl (fun K hK => ?_) AllReadyH.nil
              try simp only [List.getElem_toArray, List.getElem_cons_zero, List.getElem_cons_succ, List.setIfInBounds_toArray, List.set_cons_zero, List.set_cons_succ]
              try go_simp
              refine (HCells.out _).mono ?_; rintro e w7 ⟨rfl, rfl⟩
              try go_simp
              refine hK.out _ _ ?_ (fun hHeld => ?_)
              · first | assumption | exact HS0.out | exact HS1.out _ | exact HS2.out _ _
              try simp only [Act.put, List.getElem_toArray, List.getElem_cons_zero, List.getElem_cons_succ, List.setIfInBounds_toArray, List.set_cons_zero, List.set_cons_succ]
              refine wpAnyH_take (i := 6) (v := ?_) rfl (by kernel_rfl) (by kernel_rfl) (by kernel_rfl) (fun _ _ _ h => h) (Or.inl ⟨by rfl, ?_⟩) hHeld ?_
              rotate_left
              · (intro wS hSw; (try dsimp only at hSw); go_simp; try with_reducible rfl)
              try simp only [Act.put, List.getElem_toArray, List.getElem_cons_zero, List.getElem_cons_succ, List.setIfInBounds_toArray, List.set_cons_zero, List.set_cons_succ]
              refine wpAnyH_take (i := 8) (v := ?_) rfl (by kernel_rfl) (by kernel_rfl) (by kernel_rfl) (fun _ _ _ h => h) (Or.inl ⟨by rfl, ?_⟩) hHeld ?_
              rotate_left
              · (intro wS hSw; (try dsimp only at hSw); go_simp; try with_reducible rfl)
              try simp only [Act.put, List.getElem_toArray, List.getElem_cons_zero, List.getElem_cons_succ, List.setIfInBounds_toArray, List.set_cons_zero, List.set_cons_succ]
              refine wpAnyH_take (i := 9) (v := ?_) rfl (by kernel_rfl) (by kernel_rfl) (by kernel_rfl) (fun _ _ _ h => h) (Or.inl ⟨by rfl, ?_⟩) hHeld ?_
              rotate_left
              · (intro wS hSw; (try dsimp only at hSw); go_simp; try with_reducible rfl)
              try simp only [Act.put, List.getElem_toArray, List.getElem_cons_zero, List.getElem_cons_succ, List.setIfInBounds_toArray, List.set_cons_zero, List.set_cons_succ]
              refine wpAnyH_take (i := 10) (v := ?_) rfl (by kernel_rfl) (by kernel_rfl) (by kernel_rfl) (fun _ _ _ h => h) (Or.inl ⟨by rfl, ?_⟩) hHeld ?_
              rotate_left
              · (intro wS hSw; (try dsimp only at hSw); go_simp; try with_reducible rfl)
              try simp only [Act.put, List.getElem_toArray, List.getElem_cons_zero, List.getElem_cons_succ, List.setIfInBounds_toArray, List.set_cons_zero, List.set_cons_succ]
              refine wpAnyH_take (i := 11) (v := ?_) rfl (by kernel_rfl) (by kernel_rfl) (by kernel_rfl) (fun _ _ _ h => h) (Or.inl ⟨by rfl, ?_⟩) hHeld ?_
              rotate_left
              · (intro wS hSw; (try dsimp only at hSw); go_simp; try with_reducible rfl)
              try simp only [Act.put, List.getElem_toArray, List.getElem_cons_zero, List.getElem_cons_succ, List.setIfInBounds_toArray, List.set_cons_zero, List.set_cons_succ]
              refine wpAnyH_ready (rs := [12]) (by kernel_rfl) (by simp) ?_
              refine AllReadyH.cons rfl (fun K hK => ?_) AllReadyH.nil
              try simp only [List.getElem_toArray, List.getElem_cons_zero, List.getElem_cons_succ, List.setIfInBounds_toArray, List.set_cons_zero, List.set_cons_succ]
              try go_simp
              refine (num23_any _ _).mono ?_; rintro e w7 ⟨rfl, rfl⟩
              try go_simp
              refine hK.out _ _ ?_ (fun hHeld => ?_)
              · first | assumption | exact HS0.out | exact HS1.out _ | exact HS2.out _ _
              try simp only [Act.put, List.getElem_toArray, List.getElem_cons_zero, List.getElem_cons_succ, List.setIfInBounds_toArray, List.set_cons_zero, List.set_cons_succ]
              refine wpAnyH_take (i := 13) (v := ?_) rfl (by kernel_rfl) (by kernel_rfl) (by kernel_rfl) (fun _ _ _ h => h) (Or.inl ⟨by rfl, ?_⟩) hHeld ?_
              rotate_left
              · (intro wS hSw; (try dsimp only at hSw); go_simp; try with_reducible rfl)
              try simp only [Act.put, List.getElem_toArray, List.getElem_cons_zero, List.getElem_cons_succ, List.setIfInBounds_toArray, List.set_cons_zero, List.set_cons_succ]
              refine wpAnyH_take (i := 14) (v := ?_) rfl (by kernel_rfl) (by kernel_rfl) (by kernel_rfl) (fun _ _ _ h => h) (Or.inl ⟨by rfl, ?_⟩) hHeld ?_
              rotate_left
              · (intro wS hSw; (try dsimp only at hSw); go_simp; try with_reducible rfl)
              try simp only [Act.put, List.getElem_toArray, List.getElem_cons_zero, List.getElem_cons_succ, List.setIfInBounds_toArray, List.set_cons_zero, List.set_cons_succ]
              refine wpAnyH_take (i := 15) (v := undef) rfl (by kernel_rfl) (by kernel_rfl) (by kernel_rfl) (fun _ _ _ h => h) (Or.inr ⟨by rfl, rfl⟩) hHeld ?_
              try simp only [Act.put, List.getElem_toArray, List.getElem_cons_zero, List.getElem_cons_succ, List.setIfInBounds_toArray, List.set_cons_zero, List.set_cons_succ]
              refine wpAnyH_take (i := 16) (v := undef) rfl (by kernel_rfl) (by kernel_rfl) (by kernel_rfl) (fun _ _ _ h => h) (Or.inr ⟨by rfl, rfl⟩) hHeld ?_
              try simp only [Act.put, List.getElem_toArray, List.getElem_cons_zero, List.getElem_cons_succ, List.setIfInBounds_toArray, List.set_cons_zero, List.set_cons_succ]
              refine wpAnyH_take (i := 17) (v := undef) rfl (by kernel_rfl) (by kernel_rfl) (by kernel_rfl) (fun _ _ _ h => h) (Or.inr ⟨by rfl, rfl⟩) hHeld ?_
              try simp only [Act.put, List.getElem_toArray, List.getElem_cons_zero, List.getElem_cons_succ, List.setIfInBounds_toArray, List.set_cons_zero, List.set_cons_succ]
              refine wpAnyH_take (i := 18) (v := undef) rfl (by kernel_rfl) (by kernel_rfl) (by kernel_rfl) (fun _ _ _ h => h) (Or.inr ⟨by rfl, rfl⟩) hHeld ?_
              try simp only [Act.put, List.getElem_toArray, List.getElem_cons_zero, List.getElem_cons_succ, List.setIfInBounds_toArray, List.set_cons_zero, List.set_cons_succ]
              refine wpAnyH_take (i := 19) (v := undef) rfl (by kernel_rfl) (by kernel_rfl) (by kernel_rfl) (fun _ _ _ h => h) (Or.inr ⟨by rfl, rfl⟩) hHeld ?_
              try simp only [Act.put, List.getElem_toArray, List.getElem_cons_zero, List.getElem_cons_succ, List.setIfInBounds_toArray, List.set_cons_zero, List.set_cons_succ]
              refine wpAnyH_take (i := 20) (v := undef) rfl (by kernel_rfl) (by kernel_rfl) (by kernel_rfl) (fun _ _ _ h => h) (Or.inr ⟨by rfl, rfl⟩) hHeld ?_
              try simp only [Act.put, List.getElem_toArray, List.getElem_cons_zero, List.getElem_cons_succ, List.setIfInBounds_toArray, List.set_cons_zero, List.set_cons_succ]
              refine wpAnyH_take (i := 21) (v := undef) rfl (by kernel_rfl) (by kernel_rfl) (by kernel_rfl) (fun _ _ _ h => h) (Or.inr ⟨by rfl, rfl⟩) hHeld ?_
              try simp only [Act.put, List.getElem_toArray, List.getElem_cons_zero, List.getElem_cons_succ, List.setIfInBounds_toArray, List.set_cons_zero, List.set_cons_succ]
              refine wpAnyH_take (i := 22) (v := undef) rfl (by kernel_rfl) (by kernel_rfl) (by kernel_rfl) (fun _ _ _ h => h) (Or.inr ⟨by rfl, rfl⟩) hHeld ?_
              try simp only [Act.put, List.getElem_toArray, List.getElem_cons_zero, List.getElem_cons_succ, List.setIfInBounds_toArray, List.set_cons_zero, List.set_cons_succ]
              refine wpAnyH_take (i := 23) (v := undef) rfl (by kernel_rfl) (by kernel_rfl) (by kernel_rfl) (fun _ _ _ h => h) (Or.inr ⟨by rfl, rfl⟩) hHeld ?_
              try simp only [Act.put, List.getElem_toArray, List.getElem_cons_zero, List.getElem_cons_succ, List.setIfInBounds_toArray, List.set_cons_zero, List.set_cons_succ]
              refine wpAnyH_take (i := 24) (v := undef) rfl (by kernel_rfl) (by kernel_rfl) (by kernel_rfl) (fun _ _ _ h => h) (Or.inr ⟨by rfl, rfl⟩) hHeld ?_
              try simp only [Act.put, List.getElem_toArray, List.getElem_cons_zero, List.getElem_cons_succ, List.setIfInBounds_toArray, List.set_cons_zero, List.set_cons_succ]
              refine wpAnyH_take (i := 25) (v := undef) rfl (by kernel_rfl) (by kernel_rfl) (by kernel_rfl) (fun _ _ _ h => h) (Or.inr ⟨by rfl, rfl⟩) hHeld ?_
              try simp only [Act.put, List.getElem_toArray, List.getElem_cons_zero, List.getElem_cons_succ, List.setIfInBounds_toArray, List.set_cons_zero, List.set_cons_succ]
              refine wpAnyH_take (i := 26) (v := undef) rfl (by kernel_rfl) (by kernel_rfl) (by kernel_rfl) (fun _ _ _ h => h) (Or.inr ⟨by rfl, rfl⟩) hHeld ?_
              try simp only [Act.put, List.getElem_toArray, List.getElem_cons_zero, List.getElem_cons_succ, List.setIfInBounds_toArray, List.set_cons_zero, List.set_cons_succ]
              refine wpAnyH_take (i := 27) (v := undef) rfl (by kernel_rfl) (by kernel_rfl) (by kernel_rfl) (fun _ _ _ h => h) (Or.inr ⟨by rfl, rfl⟩) hHeld ?_
              try simp only [Act.put, List.getElem_toArray, List.getElem_cons_zero, List.getElem_cons_succ, List.setIfInBounds_toArray, List.set_cons_zero, List.set_cons_succ]
              refine wpAnyH_take (i := 28) (v := undef) rfl (by kernel_rfl) (by kernel_rfl) (by kernel_rfl) (fun _ _ _ h => h) (Or.inr ⟨by rfl, rfl⟩) hHeld ?_
              try simp only [Act.put, List.getElem_toArray, List.getElem_cons_zero, List.getElem_cons_succ, List.setIfInBounds_toArray, List.set_cons_zero, List.set_cons_succ]
              refine wpAnyH_take (i := 29) (v := undef) rfl (by kernel_rfl) (by kernel_rfl) (by kernel_rfl) (fun _ _ _ h => h) (Or.inr ⟨by rfl, rfl⟩) hHeld ?_
              try simp only [Act.put, List.getElem_toArray, List.getElem_cons_zero, List.getElem_cons_succ, List.setIfInBounds_toArray, List.set_cons_zero, List.set_cons_succ]
              refine wpAnyH_take (i := 30) (v := ?_) rfl (by kernel_rfl) (by kernel_rfl) (by kernel_rfl) (fun _ _ _ h => h) (Or.inl ⟨by rfl, ?_⟩) hHeld ?_
              rotate_left
              · (intro wS hSw; (try dsimp only at hSw); go_simp; try with_reducible rfl)
              try simp only [Act.put, List.getElem_toArray, List.getElem_cons_zero, List.getElem_cons_succ, List.setIfInBounds_toArray, List.set_cons_zero, List.set_cons_succ]
              refine wpAnyH_take (i := 31) (v := ?_) rfl (by kernel_rfl) (by kernel_rfl) (by kernel_rfl) (fun _ _ _ h => h) (Or.inl ⟨by rfl, ?_⟩) hHeld ?_
              rotate_left
              · (intro wS hSw; (try dsimp only at hSw); go_simp; try with_reducible rfl)
              try simp only [Act.put, List.getElem_toArray, List.getElem_cons_zero, List.getElem_cons_succ, List.setIfInBounds_toArray, List.set_cons_zero, List.set_cons_succ]
              refine wpAnyH_take (i := 32) (v := ?_) rfl (by kernel_rfl) (by kernel_rfl) (by kernel_rfl) (fun _ _ _ h => h) (Or.inl ⟨by rfl, ?_⟩) hHeld ?_
              rotate_left
              · (intro wS hSw; (try dsimp only at hSw); go_simp; try with_reducible rfl)
              try simp only [Act.put, List.getElem_toArray, List.getElem_cons_zero, List.getElem_cons_succ, List.setIfInBounds_toArray, List.set_cons_zero, List.set_cons_succ]
              refine wpAnyH_take (i := 33) (v := ?_) rfl (by kernel_rfl) (by kernel_rfl) (by kernel_rfl) (fun _ _ _ h => h) (Or.inl ⟨by rfl, ?_⟩) hHeld ?_
              rotate_left
              · (intro wS hSw; (try dsimp only at hSw); go_simp; try with_reducible rfl)
              try simp only [Act.put, List.getElem_toArray, List.getElem_cons_zero, List.getElem_cons_succ, List.setIfInBounds_toArray, List.set_cons_zero, List.set_cons_succ]
              refine wpAnyH_ready (rs := [34]) (by kernel_rfl) (by simp) ?_
              refine AllReadyH.cons rfl (fun K hK => ?_) AllReadyH.nil
              try simp only [List.getElem_toArray, List.getElem_cons_zero, List.getElem_cons_succ, List.setIfInBounds_toArray, List.set_cons_zero, List.set_cons_succ]
              try go_simp
              refine (num23_any _ _).mono ?_; rintro e w7 ⟨rfl, rfl⟩
              try go_simp
              refine hK.out _ _ ?_ (fun hHeld => ?_)
              · first | assumption | exact HS0.out | exact HS1.out _ | exact HS2.out _ _
              try simp only [Act.put, List.getElem_toArray, List.getElem_cons_zero, List.getElem_cons_succ, List.setIfInBounds_toArray, List.set_cons_zero, List.set_cons_succ]
              refine wpAnyH_take (i := 35) (v := ?_) rfl (by kernel_rfl) (by kernel_rfl) (by kernel_rfl) (fun _ _ _ h => h) (Or.inl ⟨by rfl, ?_⟩) hHeld ?_
              rotate_left
              · (intro wS hSw; (try dsimp only at hSw); go_simp; try with_reducible rfl)
              try simp only [Act.put, List.getElem_toArray, List.getElem_cons_zero, List.getElem_cons_succ, List.setIfInBounds_toArray, List.set_cons_zero, List.set_cons_succ]
              refine wpAnyH_take (i := 36) (v := ?_) rfl (by kernel_rfl) (by kernel_rfl) (by kernel_rfl) (fun _ _ _ h => h) (Or.inl ⟨by rfl, ?_⟩) hHeld ?_
              rotate_left
              · (intro wS hSw; (try dsimp only at hSw); go_simp; try with_reducible rfl)
              try simp only [Act.put, List.getElem_toArray, List.getElem_cons_zero, List.getElem_cons_succ, List.setIfInBounds_toArray, List.set_cons_zero, List.set_cons_succ]
              refine wpAnyH_take (i := 37) (v := ?_) rfl (by kernel_rfl) (by kernel_rfl) (by kernel_rfl) (fun _ _ _ h => h) (Or.inl ⟨by rfl, ?_⟩) hHeld ?_
              rotate_left
              · (intro wS hSw; (try dsimp only at hSw); go_simp; try with_reducible rfl)
              try simp only [Act.put, List.getElem_toArray, List.getElem_cons_zero, List.getElem_cons_succ, List.setIfInBounds_toArray, List.set_cons_zero, List.set_cons_succ]
              refine wpAnyH_take (i := 39) (v := ?_) rfl (by kernel_rfl) (by kernel_rfl) (by kernel_rfl) (fun _ _ _ h => h) (Or.inl ⟨by rfl, ?_⟩) hHeld ?_
              rotate_left
              · (intro wS hSw; (try dsimp only at hSw); go_simp; try with_reducible rfl)
              try simp only [Act.put, List.getElem_toArray, List.getElem_cons_zero, List.getElem_cons_succ, List.setIfInBounds_toArray, List.set_cons_zero, List.set_cons_succ]
              refine wpAnyH_take (i := 40) (v := ?_) rfl (by kernel_rfl) (by kernel_rfl) (by kernel_rfl) (fun _ _ _ h => h) (Or.inl ⟨by rfl, ?_⟩) hHeld ?_
              rotate_left
              · (intro wS hSw; (try dsimp only at hSw); go_simp; try with_reducible rfl)
              try simp only [Act.put, List.getElem_toArray, List.getElem_cons_zero, List.getElem_cons_succ, List.setIfInBounds_toArray, List.set_cons_zero, List.set_cons_succ]
              refine wpAnyH_ready (rs := [38]) (by kernel_rfl) (by simp) ?_
              refine AllReadyH.cons rfl (fun K hK => ?_) AllReadyH.nil
              try simp only [List.getElem_toArray, List.getElem_cons_zero, List.getElem_cons_succ, List.setIfInBounds_toArray, List.set_cons_zero, List.set_cons_succ]
              try go_simp
              refine (HU.out _ hHeld.2.2.2).mono ?_; rintro e w7 ⟨rfl, rfl⟩
              try go_simp
              refine hK.out _ _ ?_ (fun hHeld => ?_)
              · first | assumption | exact HS0.out | exact HS1.out _ | exact HS2.out _ _
              try simp only [Act.put, List.getElem_toArray, List.getElem_cons_zero, List.getElem_cons_succ, List.setIfInBounds_toArray, List.set_cons_zero, List.set_cons_succ]
              refine wpAnyH_ready (rs := [41]) (by kernel_rfl) (by simp) ?_
              refine AllReadyH.cons rfl (fun K hK => ?_) AllReadyH.nil
              try simp only [List.getElem_toArray, List.getElem_cons_zero, List.getElem_cons_succ, List.setIfInBounds_toArray, List.set_cons_zero, List.set_cons_succ]
              try go_simp
              refine (HCells.out _).mono ?_; rintro e w7 ⟨rfl, rfl⟩
              try go_simp
              refine hK.out _ _ ?_ (fun hHeld => ?_)
              · first | assumption | exact HS0.out | exact HS1.out _ | exact HS2.out _ _
              try simp only [Act.put, List.getElem_toArray, List.getElem_cons_zero, List.getElem_cons_succ, List.setIfInBounds_toArray, List.set_cons_zero, List.set_cons_succ]
              refine wpAnyH_take (i := 42) (v := ?_) rfl (by kernel_rfl) (by kernel_rfl) (by kernel_rfl) (fun _ _ _ h => h) (Or.inl ⟨by rfl, ?_⟩) hHeld ?_
              rotate_left
              · (intro wS hSw; (try dsimp only at hSw); go_simp; try with_reducible rfl)
              try simp only [Act.put, List.getElem_toArray, List.getElem_cons_zero, List.getElem_cons_succ, List.setIfInBounds_toArray, List.set_cons_zero, List.set_cons_succ]
              refine wpAnyH_take (i := 43) (v := ?_) rfl (by kernel_rfl) (by kernel_rfl) (by kernel_rfl) (fun _ _ _ h => h) (Or.inl ⟨by rfl, ?_⟩) hHeld ?_
              rotate_left
              · (intro wS hSw; (try dsimp only at hSw); go_simp; try with_reducible rfl)
              try simp only [Act.put, List.getElem_toArray, List.getElem_cons_zero, List.getElem_cons_succ, List.setIfInBounds_toArray, List.set_cons_zero, List.set_cons_succ]
              refine wpAnyH_take (i := 44) (v := ?_) rfl (by kernel_rfl) (by kernel_rfl) (by kernel_rfl) (fun _ _ _ h => h) (Or.inl ⟨by rfl, ?_⟩) hHeld ?_
              rotate_left
              · (intro wS hSw; (try dsimp only at hSw); go_simp; try with_reducible rfl)
              try simp only [Act.put, List.getElem_toArray, List.getElem_cons_zero, List.getElem_cons_succ, List.setIfInBounds_toArray, List.set_cons_zero, List.set_cons_succ]
              refine wpAnyH_take (i := 45) (v := ?_) rfl (by kernel_rfl) (by kernel_rfl) (by kernel_rfl) (fun _ _ _ h => h) (Or.inl ⟨by rfl, ?_⟩) hHeld ?_
              rotate_left
              · (intro wS hSw; (try dsimp only at hSw); go_simp; try with_reducible rfl)
              try simp only [Act.put, List.getElem_toArray, List.getElem_cons_zero, List.getElem_cons_succ, List.setIfInBounds_toArray, List.set_cons_zero, List.set_cons_succ]
              refine wpAnyH_done (by kernel_rfl) ?_ _
              go_wp2_with fail
              go_meet
              exact ⟨rfl, (below_alloc' (below_alloc' (Below.refl _ w5) _) _).drew⟩
            case rest =>
              obtain ⟨rfl, hbc⟩ := hcut
              have HBC := Lib.hid hbc; clear hbc
              go_wp2_with fail
              go_roundg (R - (i + 1))
              case measure => omega
              case rel => exact ⟨i + 1, by omega, rfl, by go_num, HB5.out.trans (HBC.out.mono HB5.out.size), _, _, _, _, _, HP5.out.below HBC.out⟩
          · have hb5 : Below w.heap.size w w5 := HBLK.out.trans (below_of_turns ht5 (by omega) (by omega) (by omega) (by omega))
            have hBk5 := HBK.out.turns ht5 (by rintro (e | e | e) <;> omega)
            have d0 := hBk5.cell 0; have d1 := hBk5.cell 1; have d2 := hBk5.cell 2
            simp at d0 d1 d2
            have hltG : W0.heap.size < w5.heap.size := hBk5.lt
            have hused : ∀ W, Below w5.heap.size w5 W → Calls Try.prog 20 #[.pointer (some ⟨b, 0, none⟩)] W fun e w' => e = .returned (.int .i64 u) ∧ W = w' := fun W hb => (hp5.below hb).used hn0
            have e1 : decide ((n : Int) < (u : Int) + (cj : Int)) = true := by simp; omega
            have e2 : ((u : Int) != (u : Int)) = false := by simp
            have e3 : IntKind.i64.wrap ((u : Int) + (cj : Int)) = (u : Int) + (cj : Int) := IntWalk.i64_in _ (by omega)
            have hlen2 : ∀ W, Below w5.heap.size w5 W → Calls Try.prog 19 #[.pointer (some ⟨b, 0, none⟩)] W fun e w' => e = .returned (.int .i64 c) ∧ W = w' := fun W hb => by rw [HCL.out]; exact (hp5.below hb).len hn0
            have e4 : ((c : Int) != (c : Int)) = false := by simp
            have HLn := Lib.hid hlen2; clear hlen2
            have HU := Lib.hid hused; have HP5 := Lib.hid hp5; have HB5 := Lib.hid hb5; have hu5 : w5.heap.size = w5.heap.size := rfl
            clear hused hp5 hb5 hBk5 ht5 hu5
            go_upto_region 18 with fail
            go_cut [119] from 74 to 119 (fun s wc => s = .bool false ∧ Below w5.heap.size w5 wc)
            case first =>
              have hk : ∀ W o, (W.cell? ⟨W0.heap.size, 0, none⟩ = some (.int .i64 4) ∧ W.cell? ⟨W0.heap.size, 1, none⟩ = some (.int .i64 1) ∧ W.cell? ⟨W0.heap.size, 2, none⟩ = some (.slice Av j cv) ∧ Below w5.heap.size w5 W) →
                  (World.alloc W o).cell? ⟨W0.heap.size, 0, none⟩ = some (.int .i64 4) ∧ (World.alloc W o).cell? ⟨W0.heap.size, 1, none⟩ = some (.int .i64 1) ∧ (World.alloc W o).cell? ⟨W0.heap.size, 2, none⟩ = some (.slice Av j cv) ∧ Below w5.heap.size w5 (World.alloc W o) := fun W o hS =>
                have hlt := Nat.lt_of_lt_of_le hltG hS.2.2.2.size
                ⟨(cell_old1 hlt).trans hS.1, (cell_old1 hlt).trans hS.2.1, (cell_old1 hlt).trans hS.2.2.1, below_alloc' hS.2.2.2 o⟩
              have HK := Lib.hid hk
              have HS0 := Lib.hid (show (w5.drew.cell? ⟨W0.heap.size, 0, none⟩ = some (.int .i64 4) ∧ w5.drew.cell? ⟨W0.heap.size, 1, none⟩ = some (.int .i64 1) ∧ w5.drew.cell? ⟨W0.heap.size, 2, none⟩ = some (.slice Av j cv) ∧ Below w5.heap.size w5 w5.drew) from ⟨d0, d1, d2, (Below.refl _ _).drew⟩)
              have HS1 := Lib.hid (fun o => (show (w5.alloc o).drew.cell? ⟨W0.heap.size, 0, none⟩ = some (.int .i64 4) ∧ (w5.alloc o).drew.cell? ⟨W0.heap.size, 1, none⟩ = some (.int .i64 1) ∧ (w5.alloc o).drew.cell? ⟨W0.heap.size, 2, none⟩ = some (.slice Av j cv) ∧ Below w5.heap.size w5 (w5.alloc o).drew from hk w5.drew o HS0.out))
              have HS2 := Lib.hid (fun o o' => (show ((w5.alloc o).alloc o').drew.cell? ⟨W0.heap.size, 0, none⟩ = some (.int .i64 4) ∧ ((w5.alloc o).alloc o').drew.cell? ⟨W0.heap.size, 1, none⟩ = some (.int .i64 1) ∧ ((w5.alloc o).alloc o').drew.cell? ⟨W0.heap.size, 2, none⟩ = some (.slice Av j cv) ∧ Below w5.heap.size w5 ((w5.alloc o).alloc o').drew from hk (w5.alloc o).drew o' (HS1.out o)))
              clear hk
              refine wp_region_held_drew (S := (fun W => W.cell? ⟨W0.heap.size, 0, none⟩ = some (.int .i64 4) ∧ W.cell? ⟨W0.heap.size, 1, none⟩ = some (.int .i64 1) ∧ W.cell? ⟨W0.heap.size, 2, none⟩ = some (.slice Av j cv) ∧ Below w5.heap.size w5 W)) (by kernel_rfl) HS0.out (fun hHeld => ?_)
              refine wpAnyH_take (i := 0) (v := ?_) rfl (by kernel_rfl) (by kernel_rfl) (by kernel_rfl) (fun _ _ _ h => h) (Or.inl ⟨by rfl, ?_⟩) hHeld ?_
              rotate_left
              · (intro wS hSw; (try dsimp only at hSw); go_simp; try with_reducible rfl)
              try simp only [Act.put, List.getElem_toArray, List.getElem_cons_zero, List.getElem_cons_succ, List.setIfInBounds_toArray, List.set_cons_zero, List.set_cons_succ]
              refine wpAnyH_take (i := 3) (v := ?_) rfl (by kernel_rfl) (by kernel_rfl) (by kernel_rfl) (fun _ _ _ h => h) (Or.inl ⟨by rfl, ?_⟩) hHeld ?_
              rotate_left
              · (intro wS hSw; (try dsimp only at hSw); go_simp; try with_reducible rfl)
              try simp only [Act.put, List.getElem_toArray, List.getElem_cons_zero, List.getElem_cons_succ, List.setIfInBounds_toArray, List.set_cons_zero, List.set_cons_succ]
              refine wpAnyH_take (i := 4) (v := ?_) rfl (by kernel_rfl) (by kernel_rfl) (by kernel_rfl) (fun _ _ _ h => h) (Or.inl ⟨by rfl, ?_⟩) hHeld ?_
              rotate_left
              · (intro wS hSw; (try dsimp only at hSw); go_simp; try with_reducible rfl)
              try simp only [Act.put, List.getElem_toArray, List.getElem_cons_zero, List.getElem_cons_succ, List.setIfInBounds_toArray, List.set_cons_zero, List.set_cons_succ]
              refine wpAnyH_take (i := 7) (v := ?_) rfl (by kernel_rfl) (by kernel_rfl) (by kernel_rfl) (fun _ _ _ h => h) (Or.inl ⟨by rfl, ?_⟩) hHeld ?_
              rotate_left
              · (intro wS hSw; (try dsimp only at hSw); go_simp; try with_reducible rfl)
              try simp only [Act.put, List.getElem_toArray, List.getElem_cons_zero, List.getElem_cons_succ, List.setIfInBounds_toArray, List.set_cons_zero, List.set_cons_succ]
              refine wpAnyH_ready (rs := [1]) (by kernel_rfl) (by simp) ?_
              refine AllReadyH.cons rfl (fun K hK => ?_) AllReadyH.nil
              try simp only [List.getElem_toArray, List.getElem_cons_zero, List.getElem_cons_succ, List.setIfInBounds_toArray, List.set_cons_zero, List.set_cons_succ]
              try go_simp
              refine (num23_any _ _).mono ?_; rintro e w7 ⟨rfl, rfl⟩
              try go_simp
              refine hK.out _ _ ?_ (fun hHeld => ?_)
              · first | assumption | exact HS0.out | exact HS1.out _ | exact HS2.out _ _
              try simp only [Act.put, List.getElem_toArray, List.getElem_cons_zero, List.getElem_cons_succ, List.setIfInBounds_toArray, List.set_cons_zero, List.set_cons_succ]
              refine wpAnyH_take (i := 2) (v := ?_) rfl (by kernel_rfl) (by kernel_rfl) (by kernel_rfl) (fun _ _ _ h => h) (Or.inl ⟨by rfl, ?_⟩) hHeld ?_
              rotate_left
              · (intro wS hSw; (try dsimp only at hSw); go_simp; try with_reducible rfl)
              try simp only [Act.put, List.getElem_toArray, List.getElem_cons_zero, List.getElem_cons_succ, List.setIfInBounds_toArray, List.set_cons_zero, List.set_cons_succ]
              refine wpAnyH_ready (rs := [5]) (by kernel_rfl) (by simp) ?_
              refine AllReadyH.cons rfl (fun K hK => ?_) AllReadyH.nil
              try simp only [List.getElem_toArray, List.getElem_cons_zero, List.getElem_cons_succ, List.setIfInBounds_toArray, List.set_cons_zero, List.set_cons_succ]
              try go_simp
              refine (HCells.out _).mono ?_; rintro e w7 ⟨rfl, rfl⟩
              try go_simp
              refine hK.out _ _ ?_ (fun hHeld => ?_)
              · first | assumption | exact HS0.out | exact HS1.out _ | exact HS2.out _ _
              try simp only [Act.put, List.getElem_toArray, List.getElem_cons_zero, List.getElem_cons_succ, List.setIfInBounds_toArray, List.set_cons_zero, List.set_cons_succ]
              refine wpAnyH_take (i := 6) (v := ?_) rfl (by kernel_rfl) (by kernel_rfl) (by kernel_rfl) (fun _ _ _ h => h) (Or.inl ⟨by rfl, ?_⟩) hHeld ?_
              rotate_left
              · (intro wS hSw; (try dsimp only at hSw); go_simp; try with_reducible rfl)
              try simp only [Act.put, List.getElem_toArray, List.getElem_cons_zero, List.getElem_cons_succ, List.setIfInBounds_toArray, List.set_cons_zero, List.set_cons_succ]
              refine wpAnyH_take (i := 8) (v := ?_) rfl (by kernel_rfl) (by kernel_rfl) (by kernel_rfl) (fun _ _ _ h => h) (Or.inl ⟨by rfl, ?_⟩) hHeld ?_
              rotate_left
              · (intro wS hSw; (try dsimp only at hSw); go_simp; try with_reducible rfl)
              try simp only [Act.put, List.getElem_toArray, List.getElem_cons_zero, List.getElem_cons_succ, List.setIfInBounds_toArray, List.set_cons_zero, List.set_cons_succ]
              refine wpAnyH_take (i := 9) (v := ?_) rfl (by kernel_rfl) (by kernel_rfl) (by kernel_rfl) (fun _ _ _ h => h) (Or.inl ⟨by rfl, ?_⟩) hHeld ?_
              rotate_left
              · (intro wS hSw; (try dsimp only at hSw); go_simp; try with_reducible rfl)
              try simp only [Act.put, List.getElem_toArray, List.getElem_cons_zero, List.getElem_cons_succ, List.setIfInBounds_toArray, List.set_cons_zero, List.set_cons_succ]
              refine wpAnyH_take (i := 10) (v := ?_) rfl (by kernel_rfl) (by kernel_rfl) (by kernel_rfl) (fun _ _ _ h => h) (Or.inl ⟨by rfl, ?_⟩) hHeld ?_
              rotate_left
              · (intro wS hSw; (try dsimp only at hSw); go_simp; try with_reducible rfl)
              try simp only [Act.put, List.getElem_toArray, List.getElem_cons_zero, List.getElem_cons_succ, List.setIfInBounds_toArray, List.set_cons_zero, List.set_cons_succ]
              refine wpAnyH_take (i := 11) (v := ?_) rfl (by kernel_rfl) (by kernel_rfl) (by kernel_rfl) (fun _ _ _ h => h) (Or.inl ⟨by rfl, ?_⟩) hHeld ?_
              rotate_left
              · (intro wS hSw; (try dsimp only at hSw); go_simp; try with_reducible rfl)
              try simp only [Act.put, List.getElem_toArray, List.getElem_cons_zero, List.getElem_cons_succ, List.setIfInBounds_toArray, List.set_cons_zero, List.set_cons_succ]
              refine wpAnyH_ready (rs := [12]) (by kernel_rfl) (by simp) ?_
              refine AllReadyH.cons rfl (fun K hK => ?_) AllReadyH.nil
              try simp only [List.getElem_toArray, List.getElem_cons_zero, List.getElem_cons_succ, List.setIfInBounds_toArray, List.set_cons_zero, List.set_cons_succ]
              try go_simp
              refine (num23_any _ _).mono ?_; rintro e w7 ⟨rfl, rfl⟩
              try go_simp
              refine hK.out _ _ ?_ (fun hHeld => ?_)
              · first | assumption | exact HS0.out | exact HS1.out _ | exact HS2.out _ _
              try simp only [Act.put, List.getElem_toArray, List.getElem_cons_zero, List.getElem_cons_succ, List.setIfInBounds_toArray, List.set_cons_zero, List.set_cons_succ]
              refine wpAnyH_take (i := 13) (v := ?_) rfl (by kernel_rfl) (by kernel_rfl) (by kernel_rfl) (fun _ _ _ h => h) (Or.inl ⟨by rfl, ?_⟩) hHeld ?_
              rotate_left
              · (intro wS hSw; (try dsimp only at hSw); go_simp; try with_reducible rfl)
              try simp only [Act.put, List.getElem_toArray, List.getElem_cons_zero, List.getElem_cons_succ, List.setIfInBounds_toArray, List.set_cons_zero, List.set_cons_succ]
              refine wpAnyH_take (i := 14) (v := ?_) rfl (by kernel_rfl) (by kernel_rfl) (by kernel_rfl) (fun _ _ _ h => h) (Or.inl ⟨by rfl, ?_⟩) hHeld ?_
              rotate_left
              · (intro wS hSw; (try dsimp only at hSw); go_simp; try with_reducible rfl)
              try simp only [Act.put, List.getElem_toArray, List.getElem_cons_zero, List.getElem_cons_succ, List.setIfInBounds_toArray, List.set_cons_zero, List.set_cons_succ]
              refine wpAnyH_take (i := 15) (v := ?_) rfl (by kernel_rfl) (by kernel_rfl) (by kernel_rfl) (fun _ _ _ h => h) (Or.inl ⟨by rfl, ?_⟩) hHeld ?_
              rotate_left
              · (intro wS hSw; (try dsimp only at hSw); go_simp; try with_reducible rfl)
              try simp only [Act.put, List.getElem_toArray, List.getElem_cons_zero, List.getElem_cons_succ, List.setIfInBounds_toArray, List.set_cons_zero, List.set_cons_succ]
              refine wpAnyH_take (i := 17) (v := ?_) rfl (by kernel_rfl) (by kernel_rfl) (by kernel_rfl) (fun _ _ _ h => h) (Or.inl ⟨by rfl, ?_⟩) hHeld ?_
              rotate_left
              · (intro wS hSw; (try dsimp only at hSw); go_simp; try with_reducible rfl)
              try simp only [Act.put, List.getElem_toArray, List.getElem_cons_zero, List.getElem_cons_succ, List.setIfInBounds_toArray, List.set_cons_zero, List.set_cons_succ]
              refine wpAnyH_ready (rs := [16]) (by kernel_rfl) (by simp) ?_
              refine AllReadyH.cons rfl (fun K hK => ?_) AllReadyH.nil
              try simp only [List.getElem_toArray, List.getElem_cons_zero, List.getElem_cons_succ, List.setIfInBounds_toArray, List.set_cons_zero, List.set_cons_succ]
              try go_simp
              refine (HU.out _ hHeld.2.2.2).mono ?_; rintro e w7 ⟨rfl, rfl⟩
              try go_simp
              refine hK.out _ _ ?_ (fun hHeld => ?_)
              · first | assumption | exact HS0.out | exact HS1.out _ | exact HS2.out _ _
              try simp only [Act.put, List.getElem_toArray, List.getElem_cons_zero, List.getElem_cons_succ, List.setIfInBounds_toArray, List.set_cons_zero, List.set_cons_succ]
              refine wpAnyH_take (i := 18) (v := ?_) rfl (by kernel_rfl) (by kernel_rfl) (by kernel_rfl) (fun _ _ _ h => h) (Or.inl ⟨by rfl, ?_⟩) hHeld ?_
              rotate_left
              · (intro wS hSw; (try dsimp only at hSw); go_simp; try with_reducible rfl)
              try simp only [Act.put, List.getElem_toArray, List.getElem_cons_zero, List.getElem_cons_succ, List.setIfInBounds_toArray, List.set_cons_zero, List.set_cons_succ]
              refine wpAnyH_take (i := 19) (v := ?_) rfl (by kernel_rfl) (by kernel_rfl) (by kernel_rfl) (fun _ _ _ h => h) (Or.inl ⟨by rfl, ?_⟩) hHeld ?_
              rotate_left
              · (intro wS hSw; (try dsimp only at hSw); go_simp; try with_reducible rfl)
              try simp only [Act.put, List.getElem_toArray, List.getElem_cons_zero, List.getElem_cons_succ, List.setIfInBounds_toArray, List.set_cons_zero, List.set_cons_succ]
              refine wpAnyH_take (i := 20) (v := ?_) rfl (by kernel_rfl) (by kernel_rfl) (by kernel_rfl) (fun _ _ _ h => h) (Or.inl ⟨by rfl, ?_⟩) hHeld ?_
              rotate_left
              · (intro wS hSw; (try dsimp only at hSw); go_simp; try with_reducible rfl)
              try simp only [Act.put, List.getElem_toArray, List.getElem_cons_zero, List.getElem_cons_succ, List.setIfInBounds_toArray, List.set_cons_zero, List.set_cons_succ]
              refine wpAnyH_take (i := 22) (v := ?_) rfl (by kernel_rfl) (by kernel_rfl) (by kernel_rfl) (fun _ _ _ h => h) (Or.inl ⟨by rfl, ?_⟩) hHeld ?_
              rotate_left
              · (intro wS hSw; (try dsimp only at hSw); go_simp; try with_reducible rfl)
              try simp only [Act.put, List.getElem_toArray, List.getElem_cons_zero, List.getElem_cons_succ, List.setIfInBounds_toArray, List.set_cons_zero, List.set_cons_succ]
              refine wpAnyH_ready (rs := [21]) (by kernel_rfl) (by simp) ?_
              refine AllReadyH.cons rfl (fun K hK => ?_) AllReadyH.nil
              try simp only [List.getElem_toArray, List.getElem_cons_zero, List.getElem_cons_succ, List.setIfInBounds_toArray, List.set_cons_zero, List.set_cons_succ]
              try go_simp
              refine (HLn.out _ hHeld.2.2.2).mono ?_; rintro e w7 ⟨rfl, rfl⟩
              try go_simp
              refine hK.out _ _ ?_ (fun hHeld => ?_)
              · first | assumption | exact HS0.out | exact HS1.out _ | exact HS2.out _ _
              try simp only [Act.put, List.getElem_toArray, List.getElem_cons_zero, List.getElem_cons_succ, List.setIfInBounds_toArray, List.set_cons_zero, List.set_cons_succ]
              refine wpAnyH_take (i := 23) (v := ?_) rfl (by kernel_rfl) (by kernel_rfl) (by kernel_rfl) (fun _ _ _ h => h) (Or.inl ⟨by rfl, ?_⟩) hHeld ?_
              rotate_left
              · (intro wS hSw; (try dsimp only at hSw); go_simp; try with_reducible rfl)
              try simp only [Act.put, List.getElem_toArray, List.getElem_cons_zero, List.getElem_cons_succ, List.setIfInBounds_toArray, List.set_cons_zero, List.set_cons_succ]
              refine wpAnyH_take (i := 24) (v := ?_) rfl (by kernel_rfl) (by kernel_rfl) (by kernel_rfl) (fun _ _ _ h => h) (Or.inl ⟨by rfl, ?_⟩) hHeld ?_
              rotate_left
              · (intro wS hSw; (try dsimp only at hSw); go_simp; try with_reducible rfl)
              try simp only [Act.put, List.getElem_toArray, List.getElem_cons_zero, List.getElem_cons_succ, List.setIfInBounds_toArray, List.set_cons_zero, List.set_cons_succ]
              refine wpAnyH_take (i := 25) (v := ?_) rfl (by kernel_rfl) (by kernel_rfl) (by kernel_rfl) (fun _ _ _ h => h) (Or.inl ⟨by rfl, ?_⟩) hHeld ?_
              rotate_left
              · (intro wS hSw; (try dsimp only at hSw); go_simp; try with_reducible rfl)
              try simp only [Act.put, List.getElem_toArray, List.getElem_cons_zero, List.getElem_cons_succ, List.setIfInBounds_toArray, List.set_cons_zero, List.set_cons_succ]
              refine wpAnyH_take (i := 26) (v := ?_) rfl (by kernel_rfl) (by kernel_rfl) (by kernel_rfl) (fun _ _ _ h => h) (Or.inl ⟨by rfl, ?_⟩) hHeld ?_
              rotate_left
              · (intro wS hSw; (try dsimp only at hSw); go_simp; try with_reducible rfl)
              try simp only [Act.put, List.getElem_toArray, List.getElem_cons_zero, List.getElem_cons_succ, List.setIfInBounds_toArray, List.set_cons_zero, List.set_cons_succ]
              refine wpAnyH_ready (rs := [27]) (by kernel_rfl) (by simp) ?_
              refine AllReadyH.cons rfl (fun K hK => ?_) AllReadyH.nil
              try simp only [List.getElem_toArray, List.getElem_cons_zero, List.getElem_cons_succ, List.setIfInBounds_toArray, List.set_cons_zero, List.set_cons_succ]
              try go_simp
              refine (num23_any _ _).mono ?_; rintro e w7 ⟨rfl, rfl⟩
              try go_simp
              refine hK.out _ _ ?_ (fun hHeld => ?_)
              · first | assumption | exact HS0.out | exact HS1.out _ | exact HS2.out _ _
              try simp only [Act.put, List.getElem_toArray, List.getElem_cons_zero, List.getElem_cons_succ, List.setIfInBounds_toArray, List.set_cons_zero, List.set_cons_succ]
              refine wpAnyH_take (i := 28) (v := ?_) rfl (by kernel_rfl) (by kernel_rfl) (by kernel_rfl) (fun _ _ _ h => h) (Or.inl ⟨by rfl, ?_⟩) hHeld ?_
              rotate_left
              · (intro wS hSw; (try dsimp only at hSw); go_simp; try with_reducible rfl)
              try simp only [Act.put, List.getElem_toArray, List.getElem_cons_zero, List.getElem_cons_succ, List.setIfInBounds_toArray, List.set_cons_zero, List.set_cons_succ]
              refine wpAnyH_take (i := 29) (v := ?_) rfl (by kernel_rfl) (by kernel_rfl) (by kernel_rfl) (fun _ _ _ h => h) (Or.inl ⟨by rfl, ?_⟩) hHeld ?_
              rotate_left
              · (intro wS hSw; (try dsimp only at hSw); go_simp; try with_reducible rfl)
              try simp only [Act.put, List.getElem_toArray, List.getElem_cons_zero, List.getElem_cons_succ, List.setIfInBounds_toArray, List.set_cons_zero, List.set_cons_succ]
              refine wpAnyH_take (i := 30) (v := ?_) rfl (by kernel_rfl) (by kernel_rfl) (by kernel_rfl) (fun _ _ _ h => h) (Or.inl ⟨by rfl, ?_⟩) hHeld ?_
              rotate_left
              · (intro wS hSw; (try dsimp only at hSw); go_simp; try with_reducible rfl)
              try simp only [Act.put, List.getElem_toArray, List.getElem_cons_zero, List.getElem_cons_succ, List.setIfInBounds_toArray, List.set_cons_zero, List.set_cons_succ]
              refine wpAnyH_take (i := 31) (v := ?_) rfl (by kernel_rfl) (by kernel_rfl) (by kernel_rfl) (fun _ _ _ h => h) (Or.inl ⟨by rfl, ?_⟩) hHeld ?_
              rotate_left
              · (intro wS hSw; (try dsimp only at hSw); go_simp; try with_reducible rfl)
              try simp only [Act.put, List.getElem_toArray, List.getElem_cons_zero, List.getElem_cons_succ, List.setIfInBounds_toArray, List.set_cons_zero, List.set_cons_succ]
              refine wpAnyH_take (i := 32) (v := ?_) rfl (by kernel_rfl) (by kernel_rfl) (by kernel_rfl) (fun _ _ _ h => h) (Or.inl ⟨by rfl, ?_⟩) hHeld ?_
              rotate_left
              · (intro wS hSw; (try dsimp only at hSw); go_simp; try with_reducible rfl)
              try simp only [Act.put, List.getElem_toArray, List.getElem_cons_zero, List.getElem_cons_succ, List.setIfInBounds_toArray, List.set_cons_zero, List.set_cons_succ]
              refine wpAnyH_take (i := 33) (v := ?_) rfl (by kernel_rfl) (by kernel_rfl) (by kernel_rfl) (fun _ _ _ h => h) (Or.inl ⟨by rfl, ?_⟩) hHeld ?_
              rotate_left
              · (intro wS hSw; (try dsimp only at hSw); go_simp; try with_reducible rfl)
              try simp only [Act.put, List.getElem_toArray, List.getElem_cons_zero, List.getElem_cons_succ, List.setIfInBounds_toArray, List.set_cons_zero, List.set_cons_succ]
              refine wpAnyH_ready (rs := [34]) (by kernel_rfl) (by simp) ?_
              refine AllReadyH.cons rfl (fun K hK => ?_) AllReadyH.nil
              try simp only [List.getElem_toArray, List.getElem_cons_zero, List.getElem_cons_succ, List.setIfInBounds_toArray, List.set_cons_zero, List.set_cons_succ]
              try go_simp
              refine (num23_any _ _).mono ?_; rintro e w7 ⟨rfl, rfl⟩
              try go_simp
              refine hK.out _ _ ?_ (fun hHeld => ?_)
              · first | assumption | exact HS0.out | exact HS1.out _ | exact HS2.out _ _
              try simp only [Act.put, List.getElem_toArray, List.getElem_cons_zero, List.getElem_cons_succ, List.setIfInBounds_toArray, List.set_cons_zero, List.set_cons_succ]
              refine wpAnyH_take (i := 35) (v := ?_) rfl (by kernel_rfl) (by kernel_rfl) (by kernel_rfl) (fun _ _ _ h => h) (Or.inl ⟨by rfl, ?_⟩) hHeld ?_
              rotate_left
              · (intro wS hSw; (try dsimp only at hSw); go_simp; try with_reducible rfl)
              try simp only [Act.put, List.getElem_toArray, List.getElem_cons_zero, List.getElem_cons_succ, List.setIfInBounds_toArray, List.set_cons_zero, List.set_cons_succ]
              refine wpAnyH_take (i := 36) (v := ?_) rfl (by kernel_rfl) (by kernel_rfl) (by kernel_rfl) (fun _ _ _ h => h) (Or.inl ⟨by rfl, ?_⟩) hHeld ?_
              rotate_left
              · (intro wS hSw; (try dsimp only at hSw); go_simp; try with_reducible rfl)
              try simp only [Act.put, List.getElem_toArray, List.getElem_cons_zero, List.getElem_cons_succ, List.setIfInBounds_toArray, List.set_cons_zero, List.set_cons_succ]
              refine wpAnyH_take (i := 37) (v := undef) rfl (by kernel_rfl) (by kernel_rfl) (by kernel_rfl) (fun _ _ _ h => h) (Or.inr ⟨by rfl, rfl⟩) hHeld ?_
              try simp only [Act.put, List.getElem_toArray, List.getElem_cons_zero, List.getElem_cons_succ, List.setIfInBounds_toArray, List.set_cons_zero, List.set_cons_succ]
              refine wpAnyH_take (i := 38) (v := undef) rfl (by kernel_rfl) (by kernel_rfl) (by kernel_rfl) (fun _ _ _ h => h) (Or.inr ⟨by rfl, rfl⟩) hHeld ?_
              try simp only [Act.put, List.getElem_toArray, List.getElem_cons_zero, List.getElem_cons_succ, List.setIfInBounds_toArray, List.set_cons_zero, List.set_cons_succ]
              refine wpAnyH_take (i := 39) (v := undef) rfl (by kernel_rfl) (by kernel_rfl) (by kernel_rfl) (fun _ _ _ h => h) (Or.inr ⟨by rfl, rfl⟩) hHeld ?_
              try simp only [Act.put, List.getElem_toArray, List.getElem_cons_zero, List.getElem_cons_succ, List.setIfInBounds_toArray, List.set_cons_zero, List.set_cons_succ]
              refine wpAnyH_take (i := 40) (v := undef) rfl (by kernel_rfl) (by kernel_rfl) (by kernel_rfl) (fun _ _ _ h => h) (Or.inr ⟨by rfl, rfl⟩) hHeld ?_
              try simp only [Act.put, List.getElem_toArray, List.getElem_cons_zero, List.getElem_cons_succ, List.setIfInBounds_toArray, List.set_cons_zero, List.set_cons_succ]
              refine wpAnyH_take (i := 41) (v := undef) rfl (by kernel_rfl) (by kernel_rfl) (by kernel_rfl) (fun _ _ _ h => h) (Or.inr ⟨by rfl, rfl⟩) hHeld ?_
              try simp only [Act.put, List.getElem_toArray, List.getElem_cons_zero, List.getElem_cons_succ, List.setIfInBounds_toArray, List.set_cons_zero, List.set_cons_succ]
              refine wpAnyH_take (i := 42) (v := undef) rfl (by kernel_rfl) (by kernel_rfl) (by kernel_rfl) (fun _ _ _ h => h) (Or.inr ⟨by rfl, rfl⟩) hHeld ?_
              try simp only [Act.put, List.getElem_toArray, List.getElem_cons_zero, List.getElem_cons_succ, List.setIfInBounds_toArray, List.set_cons_zero, List.set_cons_succ]
              refine wpAnyH_take (i := 43) (v := undef) rfl (by kernel_rfl) (by kernel_rfl) (by kernel_rfl) (fun _ _ _ h => h) (Or.inr ⟨by rfl, rfl⟩) hHeld ?_
              try simp only [Act.put, List.getElem_toArray, List.getElem_cons_zero, List.getElem_cons_succ, List.setIfInBounds_toArray, List.set_cons_zero, List.set_cons_succ]
              refine wpAnyH_take (i := 44) (v := ?_) rfl (by kernel_rfl) (by kernel_rfl) (by kernel_rfl) (fun _ _ _ h => h) (Or.inl ⟨by rfl, ?_⟩) hHeld ?_
              rotate_left
              · (intro wS hSw; (try dsimp only at hSw); go_simp; try with_reducible rfl)
              try simp only [Act.put, List.getElem_toArray, List.getElem_cons_zero, List.getElem_cons_succ, List.setIfInBounds_toArray, List.set_cons_zero, List.set_cons_succ]
              refine wpAnyH_take (i := 45) (v := ?_) rfl (by kernel_rfl) (by kernel_rfl) (by kernel_rfl) (fun _ _ _ h => h) (Or.inl ⟨by rfl, ?_⟩) hHeld ?_
              rotate_left
              · (intro wS hSw; (try dsimp only at hSw); go_simp; try with_reducible rfl)
              try simp only [Act.put, List.getElem_toArray, List.getElem_cons_zero, List.getElem_cons_succ, List.setIfInBounds_toArray, List.set_cons_zero, List.set_cons_succ]
              refine wpAnyH_done (by kernel_rfl) ?_ _
              go_wp2_with fail
              go_meet
              exact ⟨rfl, (below_alloc' (Below.refl _ w5) _).drew⟩
            case rest =>
              obtain ⟨rfl, hbc⟩ := hcut
              have HBC := Lib.hid hbc; clear hbc
              go_wp2_with fail
              go_roundg (R - (i + 1))
              case measure => omega
              case rel => exact ⟨i + 1, by omega, rfl, by go_num, HB5.out.trans (HBC.out.mono HB5.out.size), _, _, _, _, _, HP5.out.below HBC.out⟩
      · have hi1 : ¬ (i : Int) < (R : Int) := by omega
        have HBL := Lib.hid hbel
        clear hp hbel
        go_wp2_with fail
        go_ret
        exact ⟨rfl, HBL.out⟩
  · refine (knows_any _).mono ?_
    rintro e w2 ⟨rfl, hb2⟩
    have HB2 := Lib.hid (hb2 : Below w.heap.size (w.drewN q) w2)
    clear hb2
    go_wp2_with fail
    go_ret
    exact ⟨rfl, (below_drewN (Below.refl _ w) q).trans HB2.out⟩
end Go.Proofs.Ytfeghobfkgimfaa
