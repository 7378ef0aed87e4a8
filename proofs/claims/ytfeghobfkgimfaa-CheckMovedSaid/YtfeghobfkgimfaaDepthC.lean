/- Depths: the walk. -/
import Derived.Test.YtfeghobfkgimfaaDepthB
import Derived.Deep.RegionHeld3
import Derived.Deep.LoopGhost
namespace Go.Proofs.Ytfeghobfkgimfaa
open Go.RowKit

/-- The walk's state. -/
structure DpI (w : World) (cb B wb db n : Nat) (cells : Array Value) (W : World) (s : (Nat → Int) × List Nat) (rv : Value) : Prop where
  bl : Below w.heap.size w W
  bc : Blk W cb 29 cells
  wk : Blk W wb 105 #[.slice (some ⟨db, 0, none⟩) n n, rv]
  dp : W.rowIs db 3 n (fun i => .int .i64 (s.1 i))
  ro : W.ownsRow B 3 1 rv s.2.length ((ints s.2).map (Value.int .i64))
  sz : B ≤ W.heap.size

/-- .. with what the walk says. -/
def DpInv (w : World) (cb B wb db n : Nat) (C : CodeD) (cells : Array Value) (j : Nat) (z : Int) (o : Bool) (W : World) : Prop :=
  (o = true ∧ z = 0 ∧ ∃ s rv, Wk C s j ∧ DpI w cb B wb db n cells W s rv) ∨ (o = false ∧ (∀ E, ¬ Closed C E) ∧ Below w.heap.size w W)

theorem DpI.take {w : World} {cb B wb db n : Nat} {C : CodeD} {cells : Array Value} {W W' : World} {s : (Nat → Int) × List Nat} {rv : Value} {e : Ending} {cs : List ComD} {j : Nat}
    (hD : DpI w cb B wb db n cells W s rv) (h1 : w.heap.size ≤ wb) (h2 : w.heap.size ≤ db) (h3 : w.heap.size ≤ B) (h : TakeV W B wb db n rv s cs e W')
    (hsome : ∀ s', tkAll n s cs = some s' → Wk C s' j) (hnone : tkAll n s cs = none → ∀ E, ¬ Closed C E) :
    ∃ z o, e = .returned (.tuple #[.int .i64 z, .bool o]) ∧ DpInv w cb B wb db n C cells j z o W' := by
  have hlow := swb_low h1 h2 h3 hD.ro
  rcases h with ⟨s', rv', rfl, ht, hI⟩ | ⟨z, rfl, ht, tu⟩
  · refine ⟨0, true, rfl, .inl ⟨rfl, rfl, s', rv', hsome _ ht, hD.bl.trans (hI.tu.below hD.bl.size hlow), hD.bc.turns hI.tu ?_, hI.wk, hI.dp, hI.ro, Nat.le_trans hD.sz hI.tu.size⟩⟩
    rintro (e | e | e)
    · exact (Blk.ne_ hD.bc hD.wk (by decide)) e
    · exact (Blk.row_ne hD.bc hD.dp (by decide)) e
    · exact own_blk_ne hD.ro hD.bc (by decide) e
  · exact ⟨z, false, rfl, .inr ⟨rfl, hnone ht, hD.bl.trans (tu.below hD.bl.size hlow)⟩⟩

theorem DpI.on {w : World} {cb B wb db n : Nat} {cells : Array Value} {W W' : World} {s : (Nat → Int) × List Nat} {rv : Value} (h : DpI w cb B wb db n cells W s rv) (hb : Below W.heap.size W W') : DpI w cb B wb db n cells W' s rv := by
  refine ⟨h.bl.trans (hb.mono h.bl.size), h.bc.below hb h.bc.lt, h.wk.below hb h.wk.lt, ?_, ?_, Nat.le_trans h.sz hb.size⟩
  · obtain ⟨c, hc, r⟩ := h.dp
    exact ⟨c, (hb.block db h.dp.lt).trans hc, r⟩
  · obtain ⟨h1, h2⟩ := h.ro
    refine ⟨h1, ?_⟩
    rcases h2 with h2 | ⟨g, cap, cur, hv, hbb, hh, r⟩
    · exact .inl h2
    · exact .inr ⟨g, cap, cur, hv, hbb, (hb.block g (Array.getElem?_eq_some_iff.1 hh).1).trans hh, r⟩

theorem beh_blks (w0 w6 : World) (op a b : Int) (T : Option Addr) (X tc : Nat) (p d : Int) :
    Blk (((w6.alloc (.cells #[.int .i64 op, .int .i64 a, .int .i64 b, .slice T X tc] 32)).alloc (.cells #[.int .i64 p] 3)).alloc (.cells #[.int .i64 d] 3)) w6.heap.size 32 #[.int .i64 op, .int .i64 a, .int .i64 b, .slice T X tc] ∧
    Blk (((w6.alloc (.cells #[.int .i64 op, .int .i64 a, .int .i64 b, .slice T X tc] 32)).alloc (.cells #[.int .i64 p] 3)).alloc (.cells #[.int .i64 d] 3)) (w6.heap.size + 1) 3 #[.int .i64 p] ∧
    Blk (((w6.alloc (.cells #[.int .i64 op, .int .i64 a, .int .i64 b, .slice T X tc] 32)).alloc (.cells #[.int .i64 p] 3)).alloc (.cells #[.int .i64 d] 3)) (w6.heap.size + 1 + 1) 3 #[.int .i64 d] ∧
    (Below w0.heap.size w0 w6 → Below w0.heap.size w0 (((w6.alloc (.cells #[.int .i64 op, .int .i64 a, .int .i64 b, .slice T X tc] 32)).alloc (.cells #[.int .i64 p] 3)).alloc (.cells #[.int .i64 d] 3))) := by
  have b1 := (Blk.new (w6.alloc (.cells #[.int .i64 op, .int .i64 a, .int .i64 b, .slice T X tc] 32)) 3 #[.int .i64 p]).alloc (.cells #[.int .i64 d] 3)
  have b2 := Blk.new ((w6.alloc (.cells #[.int .i64 op, .int .i64 a, .int .i64 b, .slice T X tc] 32)).alloc (.cells #[.int .i64 p] 3)) 3 #[.int .i64 d]
  simp only [World.size_alloc] at b1 b2
  refine ⟨((Blk.new _ _ _).alloc _).alloc _, b1, b2, fun h => ?_⟩
  have := h.size
  exact ((h.alloc this _).alloc (by simp; omega) _).alloc (by simp; omega) _

/-- What a round's take does. -/
theorem dep_take (w wr : World) (cb B wb db : Nat) (C : CodeD) (cells : Array Value) (s : (Nat → Int) × List Nat) (rv : Value) (j p : Nat) (x : InsD) (T : Option Addr) (tc : Nat)
    (hD : DpI w cb B wb db C.ni cells wr s rv) (hwk : Wk C s j) (hp : s.2[j]? = some p) (hx : x = C.ins p) (hm : mayP C p (s.1 p)) (htab : TabSl w T tc x.t) (hxl : x.t.length ≤ 1000000000) (hni : C.ni ≤ 65536)
    (hwb : wb < B) (hdb : db < B) (h1 : w.heap.size ≤ wb) (h2 : w.heap.size ≤ db) (h3 : w.heap.size ≤ B) (hsl : s.2.length ≤ 65536)
    (W : World) (hW : Below wr.heap.size wr W) (xb ab eb : Nat) (bx : Blk W xb 32 #[.int .i64 x.op, .int .i64 x.a, .int .i64 x.b, .slice T x.t.length tc]) (ba : Blk W ab 3 #[.int .i64 p]) (bd : Blk W eb 3 #[.int .i64 (s.1 p + leavesF x)]) (lx : wr.heap.size ≤ xb) (la : wr.heap.size ≤ ab) (le : wr.heap.size ≤ eb) :
    Calls Try.prog 43 #[.pointer (some ⟨wb, 0, none⟩), .func (.func 83) #[] #[.pointer (some ⟨xb, 0, none⟩), .pointer (some ⟨eb, 0, none⟩), .pointer (some ⟨ab, 0, none⟩)]] W fun e W' =>
      ∃ z o, e = .returned (.tuple #[.int .i64 z, .bool o]) ∧ DpInv w cb B wb db C.ni C cells (j + 1) z o W' ∧ (∀ k t c, wr.heap.size ≤ k → Blk W k t c → Blk W' k t c) := by
  have hr : rightF x = true := by rw [hx]; exact hm.1
  have hpn : p < C.ni := hwk.ok.lt p (List.mem_of_getElem? hp)
  have hD2 := hD.on hW
  have hown : ∀ k, rv.ownBlock = some k → k < wr.heap.size := fun k hk => (hD.ro.lt k hk).2
  have hsz := hD.sz
  have hnot : ∀ k, wr.heap.size ≤ k → ¬ SwB wb db rv k := by
    rintro k hk (e | e | e)
    · omega
    · omega
    · have := hown k e; omega
  refine (take_beh C w W x T tc p (s.1 p + leavesF x) htab hr hxl (by omega) hD2.bl B wb db xb ab eb rv s hsl hD2.sz hwb hdb h1 h2 h3 bx ba bd (by omega) (by omega) (fun e => by have := hown _ e; omega) (fun e => by have := hown _ e; omega) hni hD2.wk hD2.dp hD2.ro).mono ?_
  intro e W' hv
  have htu : Turns (SwB wb db rv) W W' := by
    rcases hv with ⟨s', rv', _, _, hI⟩ | ⟨z, _, _, tu⟩
    · exact hI.tu
    · exact tu
  obtain ⟨z, o, he, hinv⟩ := hD2.take (C := C) (j := j + 1) h1 h2 h3 hv (fun s' h => hwk.step hp hm (by rw [← hx]; exact h)) (fun h => hwk.no_take hp hm (by rw [← hx]; exact h))
  exact ⟨z, o, he, hinv, fun k t c hk hb => hb.turns htu (hnot k hk)⟩

set_option maxRecDepth 100000 in
set_option maxHeartbeats 4000000 in
theorem dep_ok (C : CodeD) (G I : Option Addr) (gc ic : Nat) (w : World) (hC : CodeAt w C G gc I ic) (htl : ∀ i, i < C.ni → (C.ins i).t.length ≤ 1000000000) (hni : C.ni ≤ 65536) (hgl : C.gl ≤ 65536) (h : arsOk C) :
    Calls Try.prog 9 #[.agg #[.slice G C.gl gc, .slice I C.ni ic]] w (DepV C w) := by
  have hm : decide ((65536 : Int) < max (C.ni : Int) (C.gl : Int)) = false := by simp; omega
  have m3 := fun W => run_make_row' (P := Try.prog) 22 3 (.int .i64 0) 8 Try.underlying22 Try.info3 rfl .i64 .i64 C.ni (by omega) (by omega) W
  have hx := Lib.hid (fun W hg => any41 C G gc W hgl hg)
  have e : arsB C = true := by simp [arsB, h]
  rw [e] at hx
  have hB := below1' (w := w) (.cells #[.slice G C.gl gc, .slice I C.ni ic] 29)
  have hg : GlobsAt (w.alloc (.cells #[.slice G C.gl gc, .slice I C.ni ic] 29)) C G := fun h0 => by
    obtain ⟨g, o, hG, hl, hc⟩ := hC.gs h0
    exact ⟨g, o, hG, by simp; omega, fun i hi => by
      obtain ⟨s, h1, h2, h3⟩ := hc i hi
      exact ⟨s, (hB.cell (p := ⟨g, o + i * 3, none⟩) hl).trans h1, (hB.cell (p := ⟨g, o + i * 3 + 1, none⟩) hl).trans h2, (hB.cell (p := ⟨g, o + i * 3 + 2, none⟩) hl).trans h3⟩⟩
  obtain ⟨ni, hn⟩ : ∃ n, n = C.ni := ⟨_, rfl⟩
  obtain ⟨gl, hgg⟩ : ∃ n, n = C.gl := ⟨_, rfl⟩
  have HA : Hid (arsOk C) := Lib.hid h
  rw [← hn] at hm hni hB hg m3 ⊢; rw [← hgg] at hm hgl hx hB hg ⊢
  obtain ⟨m, hmx⟩ : ∃ m, max (ni : Int) (gl : Int) = m := ⟨_, rfl⟩
  rw [hmx] at hm
  have HB := Lib.hid hB; have HG := Lib.hid hg
  have HN : Hid (ni = C.ni) := Lib.hid hn
  have HNG : Hid (gl = C.gl) := Lib.hid hgg
  have HC := Lib.hid hC; have HT := Lib.hid htl
  have BC := Blk.new w 29 #[.slice G gl gc, .slice I ni ic]
  have HBC := Lib.hid BC
  clear hn hgg h hC e hB hg htl BC
  go_enter Try.func9, Try.ntmps9
  go_wp2_with fail
  go_step3
  go_wp2_with fail
  refine (hx.out _ HG.out).mono ?_
  rintro e w2 ⟨rfl, hb⟩
  have HB2 := Lib.hid (HB.out.trans (hb.mono (by simp)))
  have bc2 := HBC.out.below hb HBC.out.lt
  have c0 := bc2.cell 0; have c1 := bc2.cell 1
  simp at c0 c1
  have hcl : w.heap.size < w2.heap.size := bc2.lt
  have BC2 := Lib.hid bc2
  clear hb bc2 hx
  go_wp2_with fail
  refine (entries_any G I gl gc ni ic _).mono ?_
  rintro e W3 ⟨rfl, hW3⟩
  have hD : DpI w w.heap.size (w2.heap.size + 1 + 1) (w2.heap.size + 1) w2.heap.size ni #[.slice G gl gc, .slice I ni ic] W3 (fun _ => 0, []) (.slice none 0 0) := by
    rw [← hW3]
    have b1 := Blk.new (w2.alloc (.cells (madeCells #[.int .i64 0] ni) 3)) 105 #[.slice (some ⟨w2.heap.size, 0, none⟩) ni ni, .slice none 0 0]
    simp only [World.size_alloc] at b1
    refine ⟨((HB2.out.alloc (by omega) _).alloc (by simp; omega) _).alloc (by simp; omega) _, ((BC2.out.alloc _).alloc _).alloc _, b1.alloc _, (World.rowIs_made w2 (.int .i64 0) ni 3).alloc _ |>.alloc _, ⟨by simp [ints], .inl ⟨rfl, rfl⟩⟩, by simp⟩
  have heb : Blk W3 (w2.heap.size + 1 + 1) 29 #[.slice G gl gc, .slice I ni ic] := by
    rw [← hW3]
    have b1 := Blk.new ((w2.alloc (.cells (madeCells #[.int .i64 0] ni) 3)).alloc (.cells #[.slice (some ⟨w2.heap.size, 0, none⟩) ni ni, .slice none 0 0] 105)) 29 #[.slice G gl gc, .slice I ni ic]
    simpa only [World.size_alloc] using b1
  have hT1 : Calls Try.prog 43 #[.pointer (some ⟨w2.heap.size + 1, 0, none⟩), .func (.func 80) #[] #[.pointer (some ⟨w2.heap.size + 1 + 1, 0, none⟩)]] W3 (TakeV W3 (w2.heap.size + 1 + 1) (w2.heap.size + 1) w2.heap.size ni (.slice none 0 0) (fun _ => 0, []) (entriesL C)) := by
    have h1 := HN.out; have h2 := HNG.out
    subst h1 h2
    exact take_ent C G I gc ic w W3 HC.out hD.bl _ _ _ _ _ hD.sz (by omega) (by omega) (by omega) (by omega) (by omega) heb hni hgl HA.out hD.wk hD.dp hD.ro
  have HT1 := Lib.hid hT1; have HD := Lib.hid hD
  clear hT1 heb hD c0 c1 hW3
  go_wp2_with fail
  refine HT1.out.mono ?_
  intro e W4 hv
  obtain ⟨z0, o0, rfl, hinv⟩ := HD.out.take (C := C) (j := 0) (by omega) (by omega) (by omega) hv (fun s' h => Wk.start HA.out (by rw [← HN.out]; exact h)) (fun h => Wk.no_start HA.out (by rw [← HN.out]; exact h))
  have HI := Lib.hid hinv
  clear hv hinv HT1 HD m3 hm hmx
  go_wp2_with fail
  go_step3
  go_wp2_with fail
  go_loopg [6, 7, 8] (ni + 1) (fun gk bad ok i wr => ∃ (j : Nat) (z : Int) (o : Bool), j ≤ ni ∧ gk = ni + 1 - j ∧ bad = .int .i64 z ∧ ok = .bool o ∧ i = .int .i64 j ∧ Hid (DpInv w w.heap.size (w2.heap.size + 1 + 1) (w2.heap.size + 1) w2.heap.size ni C #[.slice G gl gc, .slice I ni ic] j z o wr))
  case atStart => exact ⟨0, z0, o0, Nat.zero_le _, rfl, rfl, rfl, rfl, HI⟩
  case round =>
    obtain ⟨j, z, o, hj, rfl, rfl, rfl, rfl, HV⟩ := hrel
    rcases HV.out with ⟨rfl, rfl, s, rv, hwk, hD⟩ | ⟨rfl, hno, hbl⟩
    · have hwkl : s.2.length ≤ ni := by
        have := List.Nodup.length_le_of_subset hwk.ok.nd (l₂ := List.range C.ni) (fun q hq => List.mem_range.2 (hwk.ok.lt q hq))
        rw [List.length_range, ← HN.out] at this; exact this
      obtain ⟨A', c', rfl⟩ := own_slice hD.ro
      have y1 : wr.cell? ⟨w2.heap.size + 1, 1, none⟩ = some (.slice A' s.2.length c') := (hD.wk.cell 1).trans rfl
      have y0 : wr.cell? ⟨w2.heap.size + 1, 0, none⟩ = some (.slice (some ⟨w2.heap.size, 0, none⟩) ni ni) := (hD.wk.cell 0).trans rfl
      have c0 : wr.cell? ⟨w.heap.size, 0, none⟩ = some (.slice G gl gc) := (hD.bc.cell 0).trans rfl
      have c1 : wr.cell? ⟨w.heap.size, 1, none⟩ = some (.slice I ni ic) := (hD.bc.cell 1).trans rfl
      have hsz := hD.sz
      by_cases hjl : j < s.2.length
      · obtain ⟨g, cp, hv, hgB, hgl2⟩ := hD.ro.form (by omega)
        injection hv with hA _ _
        subst hA
        obtain ⟨p, hp⟩ : ∃ p, s.2[j]? = some p := ⟨_, List.getElem?_eq_getElem hjl⟩
        have hmem : p ∈ s.2 := List.mem_of_getElem? hp
        have hpn : p < ni := by have := hwk.ok.lt p hmem; rw [← HN.out] at this; exact this
        have hd := hwk.pos p ((hwk.ok.mem p).1 hmem)
        have r0 : wr.cell? ⟨g, j, none⟩ = some (.int .i64 (p : Int)) := by
          rw [hD.ro.cellAt j (by omega), List.getElem?_map]
          unfold ints
          rw [List.getElem?_map, hp]; rfl
        have d0 : wr.cell? ⟨w2.heap.size, p, none⟩ = some (.int .i64 (s.1 p)) := hD.dp.cell hpn
        obtain ⟨gi, oi, hI, hgi, hcs⟩ := HC.out.is (by rw [← HN.out]; omega)
        subst hI
        obtain ⟨T, tc, e0, e1, e2, e3, htab⟩ := hcs p (by rw [← HN.out]; exact hpn)
        have hxl := HT.out p (by rw [← HN.out]; exact hpn)
        obtain ⟨x, hx⟩ : ∃ x, x = C.ins p := ⟨_, rfl⟩
        rw [← hx] at e0 e1 e2 e3 htab hxl
        obtain ⟨op, a, b, t⟩ := x
        simp only at e0 e1 e2 e3 htab hxl
        have i0 := (hD.bl.cell (p := ⟨gi, oi + p * 4, none⟩) hgi).trans e0
        have i1 := (hD.bl.cell (p := ⟨gi, oi + p * 4 + 1, none⟩) hgi).trans e1
        have i2 := (hD.bl.cell (p := ⟨gi, oi + p * 4 + 2, none⟩) hgi).trans e2
        have i3 := (hD.bl.cell (p := ⟨gi, oi + p * 4 + 3, none⟩) hgi).trans e3
        obtain ⟨X, hX⟩ : ∃ X, X = t.length := ⟨_, rfl⟩
        obtain ⟨d, hdd⟩ : ∃ d, d = s.1 p := ⟨_, rfl⟩
        rw [← hX] at i3; rw [← hdd] at d0 hd
        have lgi : gi < wr.heap.size := Nat.lt_of_lt_of_le hgi hD.bl.size
        have lcb : w.heap.size < wr.heap.size := hD.bc.lt
        have lwb : w2.heap.size + 1 < wr.heap.size := hD.wk.lt
        have ldb : w2.heap.size < wr.heap.size := hD.dp.lt
        have hj1 : (j : Int) < (s.2.length : Int) := by omega
        have hp1 : (p : Int) < (ni : Int) := by omega
        obtain ⟨sl, hsl⟩ : ∃ sl, sl = s.2.length := ⟨_, rfl⟩
        rw [← hsl] at y1 hj1
        have HP := Lib.hid hp; have HX := Lib.hid hx; have HLX := Lib.hid hX; have HDD := Lib.hid hdd; have HWK := Lib.hid hwk; have HDI := Lib.hid hD; have HTAB := Lib.hid htab; have HXL := Lib.hid hxl; have HSL := Lib.hid hsl
        have hd1 := hd.1; have hd2 := hd.2
        clear HV hp hx hX hdd hwk hD htab hxl e0 e1 e2 e3 hcs hmem hd hsl
        go_wp2_with fail
        go_region_held3 (fun w' => w'.cell? ⟨w.heap.size, 1, none⟩ = some (.slice (some ⟨gi, oi, none⟩) ni ic) ∧ w'.cell? ⟨gi, oi + p * 4, none⟩ = some (.int .i64 op) ∧ w'.cell? ⟨gi, oi + p * 4 + 1, none⟩ = some (.int .i64 a) ∧ w'.cell? ⟨gi, oi + p * 4 + 2, none⟩ = some (.int .i64 b) ∧ w'.cell? ⟨gi, oi + p * 4 + 3, none⟩ = some (.slice T X tc) ∧ w'.cell? ⟨w2.heap.size + 1, 0, none⟩ = some (.slice (some ⟨w2.heap.size, 0, none⟩) ni ni) ∧ w'.cell? ⟨w2.heap.size, p, none⟩ = some (.int .i64 d))
          (first | go_keep) (first | fail)
        go_wp2_with fail
        have hb4 : Below wr.heap.size wr (wr.alloc (.cells #[.int .i64 op, .int .i64 a, .int .i64 b, .slice T X tc] 32)).drew := (below1' _).drew
        have hM := may_any gl ni ⟨op, a, b, t⟩ d G (some ⟨gi, oi, none⟩) gc ic T tc (wr.alloc (.cells #[.int .i64 op, .int .i64 a, .int .i64 b, .slice T X tc] 32)).drew (HTAB.out.below (HDI.out.bl.trans (hb4.mono HDI.out.bl.size))) HXL.out ⟨hd1, hd2⟩
        have hbx4 : Blk (wr.alloc (.cells #[.int .i64 op, .int .i64 a, .int .i64 b, .slice T X tc] 32)).drew wr.heap.size 32 #[.int .i64 op, .int .i64 a, .int .i64 b, .slice T X tc] := Blk.new _ _ _
        obtain ⟨mb, hmb⟩ : ∃ m, m = mayB gl ⟨op, a, b, t⟩ d := ⟨_, rfl⟩
        simp only at hM
        rw [← hmb, ← HLX.out] at hM
        have HMB := Lib.hid hmb
        refine hM.mono ?_
        rintro e w5 ⟨rfl, hb5⟩
        have hz5 := hb5.size
        simp only [World.size_alloc, World.size_drew] at hz5
        have HB5 := Lib.hid (hb4.trans (hb5.mono hb4.size))
        have hbx5 := hbx4.below hb5 hbx4.lt
        have HBX5 := Lib.hid hbx5
        clear hM hmb hb4 hbx4 hb5
        cases mb with
        | false =>
          clear hbx5
          go_wp2_with fail
          rw [Exit.noGoto_ret]
          refine bodyPost_ret (v := .tuple #[.slice none 0 0, .int .i64 p, .int .i64 50]) (by simp [results, Try.results9, go_sem]) rfl ?_
          refine ⟨HDI.out.bl.trans (HB5.out.mono HDI.out.bl.size), .inr ⟨_, rfl, fun h => by have := HN.out; have := HNG.out; omega, fun _ _ _ => HWK.out.no_may HP.out (fun hm => ?_)⟩⟩
          have := (mayB_iff C p (s.1 p)).2 hm
          rw [← HX.out, ← HDD.out, ← HNG.out, ← HMB.out] at this
          cases this
        | true =>
          have t0 : w5.cell? ⟨wr.heap.size, 0, none⟩ = some (.int .i64 op) := (hbx5.cell 0).trans rfl
          have t1 : w5.cell? ⟨wr.heap.size, 1, none⟩ = some (.int .i64 a) := (hbx5.cell 1).trans rfl
          have t2 : w5.cell? ⟨wr.heap.size, 2, none⟩ = some (.int .i64 b) := (hbx5.cell 2).trans rfl
          have t3 : w5.cell? ⟨wr.heap.size, 3, none⟩ = some (.slice T X tc) := (hbx5.cell 3).trans rfl
          have hmP : mayP C p (s.1 p) := by
            refine (mayB_iff C p (s.1 p)).1 ?_
            rw [← HX.out, ← HDD.out, ← HNG.out, ← HMB.out]
          have hT2 := fun W (hW : Below wr.heap.size wr W) => dep_take w wr w.heap.size (w2.heap.size + 1 + 1) (w2.heap.size + 1) w2.heap.size C #[.slice G gl gc, .slice (some ⟨gi, oi, none⟩) ni ic] s (.slice (some ⟨g, 0, none⟩) s.2.length c') j p ⟨op, a, b, t⟩ T tc
            (by rw [← HN.out]; exact HDI.out) HWK.out HP.out HX.out hmP HTAB.out HXL.out (by rw [← HN.out]; exact hni) (by omega) (by omega) (by omega) (by omega) (by omega) (by omega) W hW
          have hls := leaves_small ⟨op, a, b, t⟩
          have hL := fun W (hW : Below wr.heap.size wr W) => leaves_any ⟨op, a, b, t⟩ T tc W (HTAB.out.below (HDI.out.bl.trans (hW.mono HDI.out.bl.size))) HXL.out
          obtain ⟨lf, hlf⟩ : ∃ lf, lf = leavesF ⟨op, a, b, t⟩ := ⟨_, rfl⟩
          simp only at hT2 hL
          rw [← HN.out, ← HDD.out, ← HLX.out, ← hlf] at hT2
          rw [← hlf, ← HLX.out] at hL
          rw [← hlf] at hls
          have HT2 := Lib.hid hT2; have HL := Lib.hid hL
          have hls1 := hls.1; have hls2 := hls.2
          have hwr : IntKind.i64.wrap (d + lf) = d + lf := IntWalk.i64_in _ (by omega)
          clear hbx5 hT2 hL hlf hls hmP i0 i1 i2 i3 d0 r0 y0 y1
          go_wp2_with fail
          go_region_held3 (fun w' => w'.cell? ⟨wr.heap.size, 0, none⟩ = some (.int .i64 op) ∧ w'.cell? ⟨wr.heap.size, 1, none⟩ = some (.int .i64 a) ∧ w'.cell? ⟨wr.heap.size, 2, none⟩ = some (.int .i64 b) ∧ w'.cell? ⟨wr.heap.size, 3, none⟩ = some (.slice T X tc))
            (first | exact ⟨s0, s1, s2, s3⟩ | go_keep)
            (first | (go_at_call 47; refine (HL.out _ HB5.out.drew).mono ?_; rintro e w6 ⟨rfl, hb6⟩; have hbx6 := (HBX5.out.drew).below hb6 (HBX5.out.drew).lt; have s0 := hbx6.cell 0; have s1 := hbx6.cell 1; have s2 := hbx6.cell 2; have s3 := hbx6.cell 3; simp at s0 s1 s2 s3; have l6 : wr.heap.size < w6.heap.size := hbx6.lt; have HB6 := Lib.hid (HB5.out.drew.trans (hb6.mono HB5.out.drew.size)); have HBX6 := Lib.hid hbx6; clear hb6 hbx6) | (go_at_call 46; refine (behind_any op a b T X tc p (d + lf) _).mono ?_; rintro e w7 ⟨rfl, rfl⟩; obtain ⟨bk1, bk2, bk3, bk4⟩ := beh_blks wr w6 op a b T X tc p (d + lf); have BK1 := Lib.hid bk1; have BK2 := Lib.hid bk2; have BK3 := Lib.hid bk3; have BK4 := Lib.hid bk4; have hbx7 := ((HBX6.out.alloc (.cells #[.int .i64 op, .int .i64 a, .int .i64 b, .slice T X tc] 32)).alloc (.cells #[.int .i64 p] 3)).alloc (.cells #[.int .i64 (d + lf)] 3); have s0 := (hbx7.cell 0).trans (b := some (Value.int .i64 op)) rfl; have s1 := (hbx7.cell 1).trans (b := some (Value.int .i64 a)) rfl; have s2 := (hbx7.cell 2).trans (b := some (Value.int .i64 b)) rfl; have s3 := (hbx7.cell 3).trans (b := some (Value.slice T X tc)) rfl; clear bk1 bk2 bk3 bk4 hbx7) | (go_at_call 43; refine (HT2.out _ (BK4.out HB6.out) _ _ _ BK1.out BK2.out BK3.out (by omega) (by omega) (by omega)).mono ?_; rintro e w8 ⟨z8, o8, rfl, hinv, hkeep⟩; have HV8 := Lib.hid hinv; have hbx8 := hkeep _ _ _ (Nat.le_refl _) (((HBX6.out.alloc _).alloc _).alloc _); have s0 := hbx8.cell 0; have s1 := hbx8.cell 1; have s2 := hbx8.cell 2; have s3 := hbx8.cell 3; simp at s0 s1 s2 s3; clear hinv hkeep hbx8))
          clear t0 t1 t2 t3
          have hjn : j + 1 ≤ ni := by have := HSL.out; omega
          have HV9 : Hid (DpInv w w.heap.size (w2.heap.size + 1 + 1) (w2.heap.size + 1) w2.heap.size ni C #[.slice G gl gc, .slice (some ⟨gi, oi, none⟩) ni ic] (j + 1) z8 o8 w8) := HV8
          go_wp2_with fail
          go_roundg (ni + 1 - (j + 1))
          case measure => omega
          case rel => exact ⟨j + 1, z8, o8, hjn, rfl, rfl, rfl, by go_num, HV9⟩
      · have hj1 : ¬ (j : Int) < (s.2.length : Int) := by omega
        have HF := Lib.hid (hwk.fin (by omega))
        have HDI := Lib.hid hD
        obtain ⟨sl, hsl⟩ : ∃ sl, sl = s.2.length := ⟨_, rfl⟩
        rw [← hsl] at y1 hj1
        have HSL := Lib.hid hsl
        clear HV hwk hD hjl hsl
        go_wp2_with fail
        refine bodyPost_ret (v := .tuple #[.slice (some ⟨w2.heap.size, 0, none⟩) ni ni, .int .i64 0, .int .i64 0]) (by simp [results, Try.results9, go_sem]) rfl ?_
        refine ⟨HDI.out.bl, .inl ⟨w2.heap.size, s.1, by rw [← HN.out], by omega, by rw [← HN.out]; exact HDI.out.dp, HF.out, by rw [← HN.out]; exact hni, by rw [← HNG.out]; exact hgl, HA.out⟩⟩
    · have HNO := Lib.hid hno; have HBL := Lib.hid hbl
      clear HV hno hbl
      go_wp2_with fail
      rw [Exit.noGoto_ret]
      refine bodyPost_ret (v := .tuple #[.slice none 0 0, .int .i64 z, .int .i64 50]) (by simp [results, Try.results9, go_sem]) rfl ?_
      exact ⟨HBL.out, .inr ⟨z, rfl, fun h => by have := HN.out; have := HNG.out; omega, fun _ _ _ => HNO.out⟩⟩

theorem depths_any (C : CodeD) (G I : Option Addr) (gc ic : Nat) (w : World) (hC : CodeAt w C G gc I ic) (htl : ∀ i, i < C.ni → (C.ins i).t.length ≤ 1000000000) (hni : C.ni ≤ 1000000000) (hgl : C.gl ≤ 1000000000) :
    Calls Try.prog 9 #[.agg #[.slice G C.gl gc, .slice I C.ni ic]] w (DepV C w) := by
  by_cases hb : 65536 < C.ni ∨ 65536 < C.gl
  · exact dep_big C G I gc ic w hni hgl hb
  · by_cases ha : arsOk C
    · exact dep_ok C G I gc ic w hC htl (by omega) (by omega) ha
    · exact dep_ars C G I gc ic w hC (by omega) (by omega) ha
end Go.Proofs.Ytfeghobfkgimfaa
