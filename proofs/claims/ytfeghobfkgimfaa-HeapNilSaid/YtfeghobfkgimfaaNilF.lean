/- HeapNil: it answers true, whatever the sizes within the reach. -/
import Derived.Test.YtfeghobfkgimfaaNil7
import Derived.Test.YtfeghobfkgimfaaLightO
import Derived.Deep.RegionHeld3
namespace Go.Proofs.Ytfeghobfkgimfaa
open Go.RowKit Go.Shelf

set_option maxRecDepth 100000 in
set_option maxHeartbeats 4000000 in
theorem nil_full (x : ActD) (xs : List Int) (w : World) (hx : SlI w x.na x.ncap xs) (hl : x.nl = xs.length) (hnm : x.nl ≤ 140737488351232) (hrl : x.rl ≤ 140737488351232) :
    Calls Try.prog 7 #[.agg #[.int .i64 x.k, .int .i64 x.at_, .int .i64 x.tt, .int .i64 x.nk, .int .i64 x.nn, .slice x.na x.nl x.ncap, .slice x.ra x.rl x.rcap]] w fun e w' => e = .returned (.bool true) ∧ Below w.heap.size w w' := by
  have hb1 : Below w.heap.size w (w.alloc (.cells #[.int .i64 x.k, .int .i64 x.at_, .int .i64 x.tt, .int .i64 x.nk, .int .i64 x.nn, .slice x.na x.nl x.ncap, .slice x.ra x.rl x.rcap] 57)) := below1 _
  have hb2 : Below (w.alloc (.cells #[.int .i64 x.k, .int .i64 x.at_, .int .i64 x.tt, .int .i64 x.nk, .int .i64 x.nn, .slice x.na x.nl x.ncap, .slice x.ra x.rl x.rcap] 57)).heap.size (w.alloc (.cells #[.int .i64 x.k, .int .i64 x.at_, .int .i64 x.tt, .int .i64 x.nk, .int .i64 x.nn, .slice x.na x.nl x.ncap, .slice x.ra x.rl x.rcap] 57)) ((w.alloc (.cells #[.int .i64 x.k, .int .i64 x.at_, .int .i64 x.tt, .int .i64 x.nk, .int .i64 x.nn, .slice x.na x.nl x.ncap, .slice x.ra x.rl x.rcap] 57)).alloc (.cells #[.int .i64 x.k, .int .i64 x.at_, .int .i64 x.tt, .int .i64 x.nk, .int .i64 x.nn, .slice x.na x.nl x.ncap, .slice x.ra x.rl x.rcap] 57)) := below1 _
  have hact : ActsSl ((w.alloc (.cells #[.int .i64 x.k, .int .i64 x.at_, .int .i64 x.tt, .int .i64 x.nk, .int .i64 x.nn, .slice x.na x.nl x.ncap, .slice x.ra x.rl x.rcap] 57)).alloc (.cells #[.int .i64 x.k, .int .i64 x.at_, .int .i64 x.tt, .int .i64 x.nk, .int .i64 x.nn, .slice x.na x.nl x.ncap, .slice x.ra x.rl x.rcap] 57)) (some ⟨w.heap.size + 1, 0, none⟩) 1 [x] := by
    refine ⟨by simp, by simp [maxLen], fun _ => ⟨w.heap.size + 1, 0, rfl, by simp, fun i hi => ?_⟩⟩
    have hi0 : i = 0 := by simpa using hi
    subst hi0
    have B := Blk.new (w.alloc (.cells #[.int .i64 x.k, .int .i64 x.at_, .int .i64 x.tt, .int .i64 x.nk, .int .i64 x.nn, .slice x.na x.nl x.ncap, .slice x.ra x.rl x.rcap] 57)) 57 #[.int .i64 x.k, .int .i64 x.at_, .int .i64 x.tt, .int .i64 x.nk, .int .i64 x.nn, .slice x.na x.nl x.ncap, .slice x.ra x.rl x.rcap]
    simp only [World.size_alloc] at B
    have e : x.nl ≤ maxLen := by unfold maxLen; omega
    have hrm : x.rl ≤ maxLen := by unfold maxLen; omega
    exact ⟨(B.cell 0).trans rfl, (B.cell 1).trans rfl, (B.cell 2).trans rfl, (B.cell 3).trans rfl, (B.cell 4).trans rfl, (B.cell 5).trans rfl, (B.cell 6).trans rfl, e, hrm⟩
  have hlight : Calls Try.prog 15 #[.slice (some ⟨w.heap.size + 1, 0, none⟩) 1 1] _ _ := light_one _ 1 x _ hact hnm hrl
  have hrel0 : ∀ q, NilRel x xs w (((w.alloc (.cells #[.int .i64 x.k, .int .i64 x.at_, .int .i64 x.tt, .int .i64 x.nk, .int .i64 x.nn, .slice x.na x.nl x.ncap, .slice x.ra x.rl x.rcap] 57)).alloc (.cells #[.int .i64 x.k, .int .i64 x.at_, .int .i64 x.tt, .int .i64 x.nk, .int .i64 x.nn, .slice x.na x.nl x.ncap, .slice x.ra x.rl x.rcap] 57)).drewN q) none := fun q =>
    ⟨below_drewN (hb1.trans (hb2.mono hb1.size)) q, ((Blk.new _ _ _).alloc _).drewN q, (hx.below (below_drewN (hb1.trans (hb2.mono hb1.size)) q)), none_nil _⟩
  have HL := Lib.hid hlight; have HR := Lib.hid hrel0; have HX := Lib.hid hl
  clear hlight hrel0 hact hb1 hb2 hx hl
  go_enter Try.func7, Try.ntmps7
  go_wp2_with fail
  refine HL.out.mono ?_
  rintro e w1 ⟨bb, rfl, hbb, q, rfl⟩
  have hb0 := (HR.out q).bl
  have HB0 := Lib.hid hb0
  have hsz := hb0.size
  clear hb0
  cases bb with
  | false =>
    go_wp2_with fail
    refine (knows_any _).mono ?_
    rintro e w2 ⟨rfl, hb⟩
    have HB := Lib.hid hb
    clear hb
    go_wp2_with fail
    go_ret
    exact ⟨rfl, HB0.out.trans (HB.out.mono hsz)⟩
  | true =>
    have hbig : xs.length ≤ 1048576 := by have := hbb rfl; rw [← HX.out]; omega
    clear hbb
    have hr1 := HR.out q
    obtain ⟨W0, hW0⟩ : ∃ W, W = (((w.alloc (.cells #[.int .i64 x.k, .int .i64 x.at_, .int .i64 x.tt, .int .i64 x.nk, .int .i64 x.nn, .slice x.na x.nl x.ncap, .slice x.ra x.rl x.rcap] 57)).alloc (.cells #[.int .i64 x.k, .int .i64 x.at_, .int .i64 x.tt, .int .i64 x.nk, .int .i64 x.nn, .slice x.na x.nl x.ncap, .slice x.ra x.rl x.rcap] 57)).drewN q) := ⟨_, rfl⟩
    rw [← hW0] at hr1
    have HR1 := Lib.hid hr1
    clear hr1 HR HB0 HL hsz
    go_wp2_with fail
    rw [← hW0]
    clear hW0
    go_loopg [3, 4] 2 (fun gk h i wr => ∃ (j : Nat) (p : Option Addr), j ≤ 2 ∧ gk = 2 - j ∧ i = .int .i64 j ∧ h = .pointer p ∧ NilRel x xs w wr p)
    case atStart => exact ⟨0, none, by omega, rfl, rfl, rfl, HR1.out⟩
    case round =>
      obtain ⟨j, p, hj, rfl, rfl, rfl, hrel⟩ := hrel
      have HREL := Lib.hid hrel
      clear hrel
      by_cases hlt : j < 2
      · have hi1 : (j : Int) < 2 := by omega
        have hown := own_any x.nk x.nn x.na x.ncap xs wr HREL.out.sl hbig
        rw [← HX.out] at hown
        have HOWN := Lib.hid hown
        obtain ⟨c0, c1, c2, c3, c4, c5, c6⟩ := HREL.out.cells
        clear hown
        go_wp2_with fail
        have hnl : x.nl ≤ 1048576 := by rw [HX.out]; exact hbig
        refine HOWN.out.mono ?_
        rintro e w1 ⟨A1, c', rfl, hb⟩
        have HR1 := Lib.hid (HREL.out.next hb)
        clear c0 c1 c2 c3 c4 c5 c6 hb HOWN
        go_wp2_with fail
        refine (put_none p w1 _ _ _ _ _ (by omega) HR1.out.no).mono ?_
        rintro e w2 ⟨rfl, hb⟩
        have HR2 := Lib.hid (HR1.out.next hb)
        obtain ⟨c0, c1, c2, c3, c4, c5, c6⟩ := HR2.out.cells
        clear hb HR1
        go_wp2_with fail
        refine (get_none p w2 _ HR2.out.no).mono ?_
        rintro e w3 ⟨rfl, hb⟩
        have HR3 := Lib.hid (HR2.out.next hb)
        have HR4 := Lib.hid (HR3.out.next (below1 (.cells #[.int .i64 0, .int .i64 0, .slice none 0 0] 54)))
        clear c0 c1 c2 c3 c4 c5 c6 hb HR2
        obtain ⟨c0, c1, c2, c3, c4, c5, c6⟩ := HR4.out.cells
        go_wp2_with fail
        refine (look_none p _ _ HR4.out.no).mono ?_
        rintro e w5 ⟨rfl, hb⟩
        have HR5 := Lib.hid (HR4.out.next hb)
        clear c0 c1 c2 c3 c4 c5 c6 hb HR3 HR4
        obtain ⟨c0, c1, c2, c3, c4, c5, c6⟩ := HR5.out.cells
        go_wp2_with fail
        refine (collect_none p _ _ _ _ HR5.out.no).mono ?_
        rintro e w6 ⟨rfl, hb⟩
        have HR6 := Lib.hid (HR5.out.next hb)
        clear c0 c1 c2 c3 c4 c5 c6 hb HR5
        obtain ⟨c0, c1, c2, c3, c4, c5, c6⟩ := HR6.out.cells
        go_wp2_with (go_at_call 18; refine (num23_any _ _).mono ?_; rintro e w7 ⟨rfl, rfl⟩)
        refine (stand_none p _ _ _ HR6.out.no).mono ?_
        rintro e w7 ⟨rfl, hb⟩
        have HR7 := Lib.hid (HR6.out.next hb)
        clear c0 c1 c2 c3 c4 c5 c6 hb HR6
        obtain ⟨c0, c1, c2, c3, c4, c5, c6⟩ := HR7.out.cells
        go_wp2_with (go_at_call 18; refine (num23_any _ _).mono ?_; rintro e w8 ⟨rfl, rfl⟩)
        refine (blank_none p _ _ HR7.out.no).mono ?_
        rintro e w8 ⟨rfl, hb⟩
        have HR8 := Lib.hid (HR7.out.next hb)
        clear c0 c1 c2 c3 c4 c5 c6 hb HR7
        have HU := Lib.hid (used_none p _ HR8.out.no); have HS := Lib.hid (size_none p _ HR8.out.no); have HLn := Lib.hid (len_none p _ HR8.out.no)
        have HR9 := Lib.hid (HR8.out.next (below1 (.cells #[.slice none 0 0, .slice none 0 0, .int .i64 0, .int .i64 0, .slice none 0 0, .slice none 0 0, .int .i64 0, .int .i64 0, .int .i64 0] 79)))
        go_wp2_with (first | (go_at_call 18; refine (num23_any _ _).mono ?_; rintro e w9 ⟨rfl, rfl⟩) | (go_at_call 20; refine HU.out.mono ?_; rintro e w9 ⟨rfl, rfl⟩) | (go_at_call 19; refine HLn.out.mono ?_; rintro e w9 ⟨rfl, rfl⟩) | (go_at_call 32; refine HS.out.mono ?_; rintro e w9 ⟨rfl, rfl⟩))
        have HR10 : Hid (NilRel x xs w (w8.alloc (.cells #[.slice none 0 0, .slice none 0 0, .int .i64 0, .int .i64 0, .slice none 0 0, .slice none 0 0, .int .i64 0, .int .i64 0, .int .i64 0] 79)) (some ⟨w8.heap.size, 0, none⟩)) :=
          Lib.hid ⟨HR9.out.bl, HR9.out.bx, HR9.out.sl, none_zero _ _ (by simp) ((Blk.new _ _ _).cell 8)⟩
        go_roundg (2 - (j + 1))
        case measure => omega
        case rel => exact ⟨j + 1, _, by omega, rfl, by go_num, rfl, HR10.out⟩
      · have hi1 : ¬ (j : Int) < 2 := by omega
        go_wp2_with fail
        refine (knows_any _).mono ?_
        rintro e w2 ⟨rfl, hb⟩
        have HB := Lib.hid (HREL.out.bl.trans (hb.mono HREL.out.bl.size))
        clear hb
        go_wp2_with fail
        go_ret
        exact ⟨rfl, HB.out⟩
end Go.Proofs.Ytfeghobfkgimfaa
