/- form: of an instruction. -/
import Derived.Test.YtfeghobfkgimfaaInstrB
import Derived.Test.YtfeghobfkgimfaaPut
namespace Go.Proofs.Ytfeghobfkgimfaa
open Go.RowKit

set_option maxRecDepth 100000 in
theorem forms_cell : ∀ k, k < 17 → ∃ s, FORMS[k * 8]? = some (.string s) ∧ FORMS[k * 8 + 1]? = some (.int .i64 (formD k).nu) ∧ FORMS[k * 8 + 2]? = some (.int .i64 (formD k).le) ∧ FORMS[k * 8 + 3]? = some (.int .i64 (formD k).mo) ∧
    FORMS[k * 8 + 4]? = some (.int .i64 (formD k).rd) ∧ FORMS[k * 8 + 5]? = some (.int .i64 (formD k).ra) ∧ FORMS[k * 8 + 6]? = some (.int .i64 (formD k).lv) ∧ FORMS[k * 8 + 7]? = some (.int .i64 (formD k).la) :=
  lt17 ⟨_, rfl, rfl, rfl, rfl, rfl, rfl, rfl, rfl⟩ ⟨_, rfl, rfl, rfl, rfl, rfl, rfl, rfl, rfl⟩ ⟨_, rfl, rfl, rfl, rfl, rfl, rfl, rfl, rfl⟩ ⟨_, rfl, rfl, rfl, rfl, rfl, rfl, rfl, rfl⟩ ⟨_, rfl, rfl, rfl, rfl, rfl, rfl, rfl, rfl⟩ ⟨_, rfl, rfl, rfl, rfl, rfl, rfl, rfl, rfl⟩
    ⟨_, rfl, rfl, rfl, rfl, rfl, rfl, rfl, rfl⟩ ⟨_, rfl, rfl, rfl, rfl, rfl, rfl, rfl, rfl⟩ ⟨_, rfl, rfl, rfl, rfl, rfl, rfl, rfl, rfl⟩ ⟨_, rfl, rfl, rfl, rfl, rfl, rfl, rfl, rfl⟩ ⟨_, rfl, rfl, rfl, rfl, rfl, rfl, rfl, rfl⟩ ⟨_, rfl, rfl, rfl, rfl, rfl, rfl, rfl, rfl⟩
    ⟨_, rfl, rfl, rfl, rfl, rfl, rfl, rfl, rfl⟩ ⟨_, rfl, rfl, rfl, rfl, rfl, rfl, rfl, rfl⟩ ⟨_, rfl, rfl, rfl, rfl, rfl, rfl, rfl, rfl⟩ ⟨_, rfl, rfl, rfl, rfl, rfl, rfl, rfl, rfl⟩ ⟨_, rfl, rfl, rfl, rfl, rfl, rfl, rfl, rfl⟩

/-- form's answer: the form, and whether there is one. -/
def FormV (F : FormD) (ok : Bool) (w : World) (e : Ending) (w' : World) : Prop :=
  ∃ s, e = .returned (.tuple #[.agg #[.string s, .int .i64 F.nu, .int .i64 F.le, .int .i64 F.mo, .int .i64 F.rd, .int .i64 F.ra, .int .i64 F.lv, .int .i64 F.la], .bool ok]) ∧ Below w.heap.size w w'

set_option maxRecDepth 1000000 in
set_option maxHeartbeats 8000000 in
theorem form_in (k : Nat) (hk : k < 17) (a b : Int) (A : Option Addr) (n c : Nat) (w : World) :
    Calls Try.prog 84 #[.agg #[.int .i64 k, .int .i64 a, .int .i64 b, .slice A n c]] w (FormV (formD k) true w) := by
  obtain ⟨s, f0, f1, f2, f3, f4, f5, f6, f7⟩ := forms_cell k hk
  obtain ⟨F, hF⟩ : ∃ F, F = formD k := ⟨_, rfl⟩
  rw [← hF] at f1 f2 f3 f4 f5 f6 f7 ⊢
  clear hF
  have hk1 : (k : Int) < 17 := by omega
  have hk0 : ¬ (k : Int) < 0 := by omega
  obtain ⟨W2, hW2⟩ : ∃ W2, W2 = (w.alloc (.cells #[.int .i64 k, .int .i64 a, .int .i64 b, .slice A n c] 32)).alloc (.cells #[.string (ByteArray.mk #[]), .int .i64 0, .int .i64 0, .int .i64 0, .int .i64 0, .int .i64 0, .int .i64 0, .int .i64 0] 150) := ⟨_, rfl⟩
  have B1 : Blk W2 w.heap.size 32 #[.int .i64 k, .int .i64 a, .int .i64 b, .slice A n c] := by rw [hW2]; exact (Blk.new _ _ _).alloc _
  have B2 : Blk W2 (w.heap.size + 1) 150 #[.string (ByteArray.mk #[]), .int .i64 0, .int .i64 0, .int .i64 0, .int .i64 0, .int .i64 0, .int .i64 0, .int .i64 0] := by
    rw [hW2]
    have h := Blk.new (w.alloc (.cells #[.int .i64 k, .int .i64 a, .int .i64 b, .slice A n c] 32)) 150 #[.string (ByteArray.mk #[]), .int .i64 0, .int .i64 0, .int .i64 0, .int .i64 0, .int .i64 0, .int .i64 0, .int .i64 0]
    simp only [World.size_alloc] at h; exact h
  have hb2 : Below w.heap.size w W2 := by rw [hW2]; exact below2 _ _
  have HB1 := Lib.hid B1; have HB2 := Lib.hid B2; have HBL := Lib.hid hb2; have HF := Lib.hid (forms_any W2)
  have hzz : w.heap.size + 1 < W2.heap.size := B2.lt
  clear B1 B2 hb2
  go_enter Try.func84, Try.ntmps84
  go_upto_region 1 with fail
  rw [← hW2]
  have HW2 := Lib.hid hW2; clear hW2
  go_upto_region 2 with (first | (go_at_call 112; refine HF.out.mono ?_; rintro e w1 ⟨rfl, hb⟩; have HBB := Lib.hid hb; have hz1 := hb.size; clear hb) | (with_reducible refine wpList_store_mid rfl 192 (.tmp 4) (.tmp 5) rfl w1.heap.size 0 FORMS rfl rfl ?c1 ?c2 ?c3 ?_))
  case c1 => exact (Blk.new w1 192 _).there _ (Nat.le_of_eq rfl)
  case c2 => kernel_rfl
  case c3 => simp [FORMS, Value.oneCell']
  obtain ⟨W4, hW4⟩ : ∃ W4, W4 = (w1.alloc (.cells Try.zeroCells192 192)).setCells w1.heap.size 0 FORMS.toList := ⟨_, rfl⟩
  rw [← hW4]
  have hb4 : Below W2.heap.size W2 W4 := by rw [hW4]; exact below_setCells FORMS.toList 0 (HBB.out.alloc hz1 _) hz1
  have B4 : Blk W4 w1.heap.size 192 FORMS := by rw [hW4]; exact blk_setCells (Blk.new w1 192 _) FORMS rfl
  have b1 := HB1.out.below hb4 (by omega); have b2 := HB2.out.below hb4 hzz
  have x0 := b1.cell 0
  have y0 := b2.cell 0; have y1 := b2.cell 1; have y2 := b2.cell 2; have y3 := b2.cell 3; have y4 := b2.cell 4; have y5 := b2.cell 5; have y6 := b2.cell 6; have y7 := b2.cell 7
  have z0 := b2.frozen 0; have z1 := b2.frozen 1; have z2 := b2.frozen 2; have z3 := b2.frozen 3; have z4 := b2.frozen 4; have z5 := b2.frozen 5; have z6 := b2.frozen 6; have z7 := b2.frozen 7
  simp at x0 y0 y1 y2 y3 y4 y5 y6 y7
  have d0 := (B4.cell (k * 8)).trans f0; have d1 := (B4.cell (k * 8 + 1)).trans f1; have d2 := (B4.cell (k * 8 + 2)).trans f2; have d3 := (B4.cell (k * 8 + 3)).trans f3
  have d4 := (B4.cell (k * 8 + 4)).trans f4; have d5 := (B4.cell (k * 8 + 5)).trans f5; have d6 := (B4.cell (k * 8 + 6)).trans f6; have d7 := (B4.cell (k * 8 + 7)).trans f7
  have HBF := Lib.hid b2
  have HB5 := Lib.hid (HBL.out.trans (hb4.mono HBL.out.size))
  clear hW4 hb4 B4 b1 b2 f0 f1 f2 f3 f4 f5 f6 f7
  go_wp2_with fail
  have BF := ((((((((HBF.out.set_ 0 (.string s)).set_ 1 (.int .i64 F.nu)).set_ 2 (.int .i64 F.le)).set_ 3 (.int .i64 F.mo)).set_ 4 (.int .i64 F.rd)).set_ 5 (.int .i64 F.ra)).set_ 6 (.int .i64 F.lv)).set_ 7 (.int .i64 F.la))
  have e0 := BF.cell 0; have e1 := BF.cell 1; have e2 := BF.cell 2; have e3 := BF.cell 3; have e4 := BF.cell 4; have e5 := BF.cell 5; have e6 := BF.cell 6; have e7 := BF.cell 7
  simp at e0 e1 e2 e3 e4 e5 e6 e7
  refine bodyPost_ret (v := .tuple #[.agg #[(.string s), (.int .i64 F.nu), (.int .i64 F.le), (.int .i64 F.mo), (.int .i64 F.rd), (.int .i64 F.ra), (.int .i64 F.lv), (.int .i64 F.la)], .bool true]) (by simp [results, Try.results84, go_sem, e0, e1, e2, e3, e4, e5, e6, e7]) rfl ⟨_, rfl, ?_⟩
  exact below_set (below_set (below_set (below_set (below_set (below_set (below_set (below_set HB5.out (by omega) _) (by omega) _) (by omega) _) (by omega) _) (by omega) _) (by omega) _) (by omega) _) (by omega) _

set_option maxRecDepth 1000000 in
set_option maxHeartbeats 8000000 in
theorem form_out (k : Int) (hk : ¬ (0 ≤ k ∧ k < 17)) (a b : Int) (A : Option Addr) (n c : Nat) (w : World) :
    Calls Try.prog 84 #[.agg #[.int .i64 k, .int .i64 a, .int .i64 b, .slice A n c]] w (FormV ⟨0, 0, 0, 0, 0, 0, 0⟩ false w) := by
  have hk0 : k < 0 ∨ (¬ k < 0 ∧ 17 ≤ k) := by omega
  clear hk
  obtain ⟨W2, hW2⟩ : ∃ W2, W2 = (w.alloc (.cells #[.int .i64 k, .int .i64 a, .int .i64 b, .slice A n c] 32)).alloc (.cells #[.string (ByteArray.mk #[]), .int .i64 0, .int .i64 0, .int .i64 0, .int .i64 0, .int .i64 0, .int .i64 0, .int .i64 0] 150) := ⟨_, rfl⟩
  have B1 : Blk W2 w.heap.size 32 #[.int .i64 k, .int .i64 a, .int .i64 b, .slice A n c] := by rw [hW2]; exact (Blk.new _ _ _).alloc _
  have B2 : Blk W2 (w.heap.size + 1) 150 #[.string (ByteArray.mk #[]), .int .i64 0, .int .i64 0, .int .i64 0, .int .i64 0, .int .i64 0, .int .i64 0, .int .i64 0] := by
    rw [hW2]
    have h := Blk.new (w.alloc (.cells #[.int .i64 k, .int .i64 a, .int .i64 b, .slice A n c] 32)) 150 #[.string (ByteArray.mk #[]), .int .i64 0, .int .i64 0, .int .i64 0, .int .i64 0, .int .i64 0, .int .i64 0, .int .i64 0]
    simp only [World.size_alloc] at h; exact h
  have hb2 : Below w.heap.size w W2 := by rw [hW2]; exact below2 _ _
  have HB1 := Lib.hid B1; have HB2 := Lib.hid B2; have HBL := Lib.hid hb2; have HF := Lib.hid (forms_any W2)
  have hzz : w.heap.size + 1 < W2.heap.size := B2.lt
  clear B1 B2 hb2
  go_enter Try.func84, Try.ntmps84
  go_upto_region 1 with fail
  rw [← hW2]
  have HW2 := Lib.hid hW2; clear hW2
  go_upto_region 2 with (first | (go_at_call 112; refine HF.out.mono ?_; rintro e w1 ⟨rfl, hb⟩; have HBB := Lib.hid hb; have hz1 := hb.size; clear hb) | (with_reducible refine wpList_store_mid rfl 192 (.tmp 4) (.tmp 5) rfl w1.heap.size 0 FORMS rfl rfl ?c1 ?c2 ?c3 ?_))
  case c1 => exact (Blk.new w1 192 _).there _ (Nat.le_of_eq rfl)
  case c2 => kernel_rfl
  case c3 => simp [FORMS, Value.oneCell']
  obtain ⟨W4, hW4⟩ : ∃ W4, W4 = (w1.alloc (.cells Try.zeroCells192 192)).setCells w1.heap.size 0 FORMS.toList := ⟨_, rfl⟩
  rw [← hW4]
  have hb4 : Below W2.heap.size W2 W4 := by rw [hW4]; exact below_setCells FORMS.toList 0 (HBB.out.alloc hz1 _) hz1
  have B4 : Blk W4 w1.heap.size 192 FORMS := by rw [hW4]; exact blk_setCells (Blk.new w1 192 _) FORMS rfl
  have b1 := HB1.out.below hb4 (by omega); have b2 := HB2.out.below hb4 hzz
  have x0 := b1.cell 0
  have y0 := b2.cell 0; have y1 := b2.cell 1; have y2 := b2.cell 2; have y3 := b2.cell 3; have y4 := b2.cell 4; have y5 := b2.cell 5; have y6 := b2.cell 6; have y7 := b2.cell 7
  have z0 := b2.frozen 0; have z1 := b2.frozen 1; have z2 := b2.frozen 2; have z3 := b2.frozen 3; have z4 := b2.frozen 4; have z5 := b2.frozen 5; have z6 := b2.frozen 6; have z7 := b2.frozen 7
  simp at x0 y0 y1 y2 y3 y4 y5 y6 y7
  have HBF := Lib.hid b2
  have HB5 := Lib.hid (HBL.out.trans (hb4.mono HBL.out.size))
  clear hW4 hb4 B4 b1 b2
  rcases hk0 with hk0 | ⟨hk0, hk1⟩
  all_goals
    go_wp2_with fail
    have BF := ((((((((HBF.out.set_ 0 (.string (ByteArray.mk #[]))).set_ 1 (.int .i64 0)).set_ 2 (.int .i64 0)).set_ 3 (.int .i64 0)).set_ 4 (.int .i64 0)).set_ 5 (.int .i64 0)).set_ 6 (.int .i64 0)).set_ 7 (.int .i64 0))
    have e0 := BF.cell 0; have e1 := BF.cell 1; have e2 := BF.cell 2; have e3 := BF.cell 3; have e4 := BF.cell 4; have e5 := BF.cell 5; have e6 := BF.cell 6; have e7 := BF.cell 7
    simp at e0 e1 e2 e3 e4 e5 e6 e7
    refine bodyPost_ret (v := .tuple #[.agg #[(.string (ByteArray.mk #[])), (.int .i64 0), (.int .i64 0), (.int .i64 0), (.int .i64 0), (.int .i64 0), (.int .i64 0), (.int .i64 0)], .bool false]) (by simp [results, Try.results84, go_sem, e0, e1, e2, e3, e4, e5, e6, e7]) rfl ⟨_, rfl, ?_⟩
    exact below_set (below_set (below_set (below_set (below_set (below_set (below_set (below_set HB5.out (by omega) _) (by omega) _) (by omega) _) (by omega) _) (by omega) _) (by omega) _) (by omega) _) (by omega) _
end Go.Proofs.Ytfeghobfkgimfaa
