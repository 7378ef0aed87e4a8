/- Right: may an instruction be? Printed by genRight.py. -/
import Derived.Test.YtfeghobfkgimfaaInstrC
namespace Go.Proofs.Ytfeghobfkgimfaa
open Go.RowKit

def insV (op a b : Int) (A : Option Addr) (n c : Nat) : Value := .agg #[.int .i64 op, .int .i64 a, .int .i64 b, .slice A n c]

theorem pairs_any (op a b : Int) (A : Option Addr) (cap : Nat) (t : List (Int × Int)) (w : World) (h : TabSl w A cap t) (hlen : t.length ≤ 1000000000) :
    Calls Try.prog 110 #[.agg #[.int .i64 op, .int .i64 a, .int .i64 b, .slice A t.length cap]] w fun e w' => e = .returned (.bool (pairsB op t)) ∧ Below w.heap.size w w' := by
  by_cases h11 : op = 11
  · exact pairs_case op a b A cap t w h11 h hlen
  · exact pairs_other op a b A cap t w h11 h hlen

theorem TabSl.below {w w' : World} {A : Option Addr} {cap : Nat} {t : List (Int × Int)} (h : TabSl w A cap t) (hb : Below w.heap.size w w') : TabSl w' A cap t :=
  ⟨h.1, fun h0 => by
    obtain ⟨g, o, ha, hg, hx⟩ := h.2 h0
    exact ⟨g, o, ha, Nat.lt_of_lt_of_le hg hb.size, fun i hi => ⟨(hb.cell (p := ⟨g, o + i * 2, none⟩) hg).trans (hx i hi).1, (hb.cell (p := ⟨g, o + i * 2 + 1, none⟩) hg).trans (hx i hi).2⟩⟩⟩

/-- Right, its form given: the answer by the tests in their order. -/
def RightV (r : Bool) (w : World) (e : Ending) (w' : World) : Prop := e = .returned (.bool r) ∧ Below w.heap.size w w'

set_option maxRecDepth 100000 in
set_option maxHeartbeats 1000000 in
theorem right_none (op a b : Int) (A : Option Addr) (n c : Nat) (w : World) (hk : ¬ (0 ≤ op ∧ op < 17)) : Calls Try.prog 81 #[.agg #[.int .i64 op, .int .i64 a, .int .i64 b, .slice A n c]] w (RightV false w) := by
  have HF := Lib.hid (form_out op hk a b A n c (w.alloc (.cells #[.int .i64 op, .int .i64 a, .int .i64 b, .slice A n c] 32)))
  clear hk
  go_enter Try.func81, Try.ntmps81
  go_wp2_with fail
  refine HF.out.mono ?_
  rintro e w1 ⟨s, rfl, hb⟩
  have HB := Lib.hid ((below_one w (.cells #[.int .i64 op, .int .i64 a, .int .i64 b, .slice A n c] 32)).trans (hb.mono (by simp)))
  have hz := HB.out.size
  clear hb
  go_wp2_with fail
  go_ret
  exact ⟨rfl, HB.out.alloc hz _⟩

set_option maxRecDepth 100000 in
set_option maxHeartbeats 1000000 in
theorem right_m_b (op a b : Int) (A : Option Addr) (X c : Nat) (le mo rd ra lv la : Int) (w : World) (HF : Hid (∀ W, Calls Try.prog 84 #[.agg #[.int .i64 op, .int .i64 a, .int .i64 b, .slice A X c]] W (FormV ⟨(-1), le, mo, rd, ra, lv, la⟩ true W))) (hb : (b != 0) = true) : Calls Try.prog 81 #[.agg #[.int .i64 op, .int .i64 a, .int .i64 b, .slice A X c]] w (RightV false w) := by
  have HB0 := Lib.hid (below_one w (.cells #[.int .i64 op, .int .i64 a, .int .i64 b, .slice A X c] 32))
  have B0 : Blk (w.alloc (.cells #[.int .i64 op, .int .i64 a, .int .i64 b, .slice A X c] 32)) w.heap.size 32 #[.int .i64 op, .int .i64 a, .int .i64 b, .slice A X c] := Blk.new _ _ _
  have HBX := Lib.hid B0; clear B0
  go_enter Try.func81, Try.ntmps81
  go_wp2_with fail
  refine (HF.out _).mono ?_
  rintro e w1 ⟨s, rfl, hb⟩
  have HB := Lib.hid (HB0.out.trans (hb.mono (by simp)))
  have hz := HB.out.size
  have hbx := HBX.out.below hb (by simp)
  have hlt := hbx.lt
  have c0 := hbx.cell 0; have c1 := hbx.cell 1; have c2 := hbx.cell 2; have c3 := hbx.cell 3
  simp at c0 c1 c2 c3
  have HW : Hid (Below w.heap.size w (w1.alloc (.cells #[.string s, .int .i64 (-1), .int .i64 le, .int .i64 mo, .int .i64 rd, .int .i64 ra, .int .i64 lv, .int .i64 la] 150))) := Lib.hid (HB.out.alloc hz _)
  clear hb hbx
  go_wp2_with (go_at_call 111; refine (within_any _ _ _ _).mono ?_; rintro e w7 ⟨rfl, rfl⟩)
  go_ret
  exact ⟨rfl, HW.out⟩

set_option maxRecDepth 100000 in
set_option maxHeartbeats 1000000 in
theorem right_m_a (op a b : Int) (A : Option Addr) (X c : Nat) (le mo rd ra lv la : Int) (w : World) (HF : Hid (∀ W, Calls Try.prog 84 #[.agg #[.int .i64 op, .int .i64 a, .int .i64 b, .slice A X c]] W (FormV ⟨(-1), le, mo, rd, ra, lv, la⟩ true W))) (hb : (b != 0) = false) (ha : (a != 0) = true) : Calls Try.prog 81 #[.agg #[.int .i64 op, .int .i64 a, .int .i64 b, .slice A X c]] w (RightV false w) := by
  have HB0 := Lib.hid (below_one w (.cells #[.int .i64 op, .int .i64 a, .int .i64 b, .slice A X c] 32))
  have B0 : Blk (w.alloc (.cells #[.int .i64 op, .int .i64 a, .int .i64 b, .slice A X c] 32)) w.heap.size 32 #[.int .i64 op, .int .i64 a, .int .i64 b, .slice A X c] := Blk.new _ _ _
  have HBX := Lib.hid B0; clear B0
  go_enter Try.func81, Try.ntmps81
  go_wp2_with fail
  refine (HF.out _).mono ?_
  rintro e w1 ⟨s, rfl, hb⟩
  have HB := Lib.hid (HB0.out.trans (hb.mono (by simp)))
  have hz := HB.out.size
  have hbx := HBX.out.below hb (by simp)
  have hlt := hbx.lt
  have c0 := hbx.cell 0; have c1 := hbx.cell 1; have c2 := hbx.cell 2; have c3 := hbx.cell 3
  simp at c0 c1 c2 c3
  have HW : Hid (Below w.heap.size w (w1.alloc (.cells #[.string s, .int .i64 (-1), .int .i64 le, .int .i64 mo, .int .i64 rd, .int .i64 ra, .int .i64 lv, .int .i64 la] 150))) := Lib.hid (HB.out.alloc hz _)
  clear hb hbx
  go_wp2_with (go_at_call 111; refine (within_any _ _ _ _).mono ?_; rintro e w7 ⟨rfl, rfl⟩)
  go_ret
  exact ⟨rfl, HW.out⟩

set_option maxRecDepth 100000 in
set_option maxHeartbeats 1000000 in
theorem right_m_p (op a b : Int) (A : Option Addr) (X c : Nat) (le mo rd ra lv la : Int) (w : World) (HF : Hid (∀ W, Calls Try.prog 84 #[.agg #[.int .i64 op, .int .i64 a, .int .i64 b, .slice A X c]] W (FormV ⟨(-1), le, mo, rd, ra, lv, la⟩ true W))) (hb : (b != 0) = false) (ha : (a != 0) = false) (r : Bool) (HP : Hid (∀ W, Below w.heap.size w W → Calls Try.prog 110 #[.agg #[.int .i64 op, .int .i64 a, .int .i64 b, .slice A X c]] W (RightV r W))) : Calls Try.prog 81 #[.agg #[.int .i64 op, .int .i64 a, .int .i64 b, .slice A X c]] w (RightV r w) := by
  have HB0 := Lib.hid (below_one w (.cells #[.int .i64 op, .int .i64 a, .int .i64 b, .slice A X c] 32))
  have B0 : Blk (w.alloc (.cells #[.int .i64 op, .int .i64 a, .int .i64 b, .slice A X c] 32)) w.heap.size 32 #[.int .i64 op, .int .i64 a, .int .i64 b, .slice A X c] := Blk.new _ _ _
  have HBX := Lib.hid B0; clear B0
  go_enter Try.func81, Try.ntmps81
  go_wp2_with fail
  refine (HF.out _).mono ?_
  rintro e w1 ⟨s, rfl, hb⟩
  have HB := Lib.hid (HB0.out.trans (hb.mono (by simp)))
  have hz := HB.out.size
  have hbx := HBX.out.below hb (by simp)
  have hlt := hbx.lt
  have c0 := hbx.cell 0; have c1 := hbx.cell 1; have c2 := hbx.cell 2; have c3 := hbx.cell 3
  simp at c0 c1 c2 c3
  have HW : Hid (Below w.heap.size w (w1.alloc (.cells #[.string s, .int .i64 (-1), .int .i64 le, .int .i64 mo, .int .i64 rd, .int .i64 ra, .int .i64 lv, .int .i64 la] 150))) := Lib.hid (HB.out.alloc hz _)
  clear hb hbx
  go_wp2_with fail
  refine (HP.out _ HW.out).mono ?_
  rintro e w2 ⟨rfl, hb2⟩
  have HW2 := Lib.hid (HW.out.trans (hb2.mono HW.out.size))
  clear hb2
  go_wp2_with fail
  go_ret
  exact ⟨rfl, HW2.out⟩

set_option maxRecDepth 100000 in
set_option maxHeartbeats 1000000 in
theorem right_z_b (op a b : Int) (A : Option Addr) (X c : Nat) (le mo rd ra lv la : Int) (w : World) (HF : Hid (∀ W, Calls Try.prog 84 #[.agg #[.int .i64 op, .int .i64 a, .int .i64 b, .slice A X c]] W (FormV ⟨0, le, mo, rd, ra, lv, la⟩ true W))) (hb : (b != 0) = true) : Calls Try.prog 81 #[.agg #[.int .i64 op, .int .i64 a, .int .i64 b, .slice A X c]] w (RightV false w) := by
  have HB0 := Lib.hid (below_one w (.cells #[.int .i64 op, .int .i64 a, .int .i64 b, .slice A X c] 32))
  have B0 : Blk (w.alloc (.cells #[.int .i64 op, .int .i64 a, .int .i64 b, .slice A X c] 32)) w.heap.size 32 #[.int .i64 op, .int .i64 a, .int .i64 b, .slice A X c] := Blk.new _ _ _
  have HBX := Lib.hid B0; clear B0
  go_enter Try.func81, Try.ntmps81
  go_wp2_with fail
  refine (HF.out _).mono ?_
  rintro e w1 ⟨s, rfl, hb⟩
  have HB := Lib.hid (HB0.out.trans (hb.mono (by simp)))
  have hz := HB.out.size
  have hbx := HBX.out.below hb (by simp)
  have hlt := hbx.lt
  have c0 := hbx.cell 0; have c1 := hbx.cell 1; have c2 := hbx.cell 2; have c3 := hbx.cell 3
  simp at c0 c1 c2 c3
  have HW : Hid (Below w.heap.size w (w1.alloc (.cells #[.string s, .int .i64 0, .int .i64 le, .int .i64 mo, .int .i64 rd, .int .i64 ra, .int .i64 lv, .int .i64 la] 150))) := Lib.hid (HB.out.alloc hz _)
  clear hb hbx
  go_wp2_with (go_at_call 111; refine (within_any _ _ _ _).mono ?_; rintro e w7 ⟨rfl, rfl⟩)
  go_ret
  exact ⟨rfl, HW.out⟩

set_option maxRecDepth 100000 in
set_option maxHeartbeats 1000000 in
theorem right_z_a (op a b : Int) (A : Option Addr) (X c : Nat) (le mo rd ra lv la : Int) (w : World) (HF : Hid (∀ W, Calls Try.prog 84 #[.agg #[.int .i64 op, .int .i64 a, .int .i64 b, .slice A X c]] W (FormV ⟨0, le, mo, rd, ra, lv, la⟩ true W))) (hb : (b != 0) = false) (ha : (a != 0) = true) : Calls Try.prog 81 #[.agg #[.int .i64 op, .int .i64 a, .int .i64 b, .slice A X c]] w (RightV false w) := by
  have HB0 := Lib.hid (below_one w (.cells #[.int .i64 op, .int .i64 a, .int .i64 b, .slice A X c] 32))
  have B0 : Blk (w.alloc (.cells #[.int .i64 op, .int .i64 a, .int .i64 b, .slice A X c] 32)) w.heap.size 32 #[.int .i64 op, .int .i64 a, .int .i64 b, .slice A X c] := Blk.new _ _ _
  have HBX := Lib.hid B0; clear B0
  go_enter Try.func81, Try.ntmps81
  go_wp2_with fail
  refine (HF.out _).mono ?_
  rintro e w1 ⟨s, rfl, hb⟩
  have HB := Lib.hid (HB0.out.trans (hb.mono (by simp)))
  have hz := HB.out.size
  have hbx := HBX.out.below hb (by simp)
  have hlt := hbx.lt
  have c0 := hbx.cell 0; have c1 := hbx.cell 1; have c2 := hbx.cell 2; have c3 := hbx.cell 3
  simp at c0 c1 c2 c3
  have HW : Hid (Below w.heap.size w (w1.alloc (.cells #[.string s, .int .i64 0, .int .i64 le, .int .i64 mo, .int .i64 rd, .int .i64 ra, .int .i64 lv, .int .i64 la] 150))) := Lib.hid (HB.out.alloc hz _)
  clear hb hbx
  go_wp2_with (go_at_call 111; refine (within_any _ _ _ _).mono ?_; rintro e w7 ⟨rfl, rfl⟩)
  go_ret
  exact ⟨rfl, HW.out⟩

set_option maxRecDepth 100000 in
set_option maxHeartbeats 1000000 in
theorem right_z_x (op a b : Int) (A : Option Addr) (X c : Nat) (le mo rd ra lv la : Int) (w : World) (HF : Hid (∀ W, Calls Try.prog 84 #[.agg #[.int .i64 op, .int .i64 a, .int .i64 b, .slice A X c]] W (FormV ⟨0, le, mo, rd, ra, lv, la⟩ true W))) (hb : (b != 0) = false) (ha : (a != 0) = false) (hX : (0 : Int) < (X : Int)) : Calls Try.prog 81 #[.agg #[.int .i64 op, .int .i64 a, .int .i64 b, .slice A X c]] w (RightV false w) := by
  have HB0 := Lib.hid (below_one w (.cells #[.int .i64 op, .int .i64 a, .int .i64 b, .slice A X c] 32))
  have B0 : Blk (w.alloc (.cells #[.int .i64 op, .int .i64 a, .int .i64 b, .slice A X c] 32)) w.heap.size 32 #[.int .i64 op, .int .i64 a, .int .i64 b, .slice A X c] := Blk.new _ _ _
  have HBX := Lib.hid B0; clear B0
  go_enter Try.func81, Try.ntmps81
  go_wp2_with fail
  refine (HF.out _).mono ?_
  rintro e w1 ⟨s, rfl, hb⟩
  have HB := Lib.hid (HB0.out.trans (hb.mono (by simp)))
  have hz := HB.out.size
  have hbx := HBX.out.below hb (by simp)
  have hlt := hbx.lt
  have c0 := hbx.cell 0; have c1 := hbx.cell 1; have c2 := hbx.cell 2; have c3 := hbx.cell 3
  simp at c0 c1 c2 c3
  have HW : Hid (Below w.heap.size w (w1.alloc (.cells #[.string s, .int .i64 0, .int .i64 le, .int .i64 mo, .int .i64 rd, .int .i64 ra, .int .i64 lv, .int .i64 la] 150))) := Lib.hid (HB.out.alloc hz _)
  clear hb hbx
  go_wp2_with (go_at_call 111; refine (within_any _ _ _ _).mono ?_; rintro e w7 ⟨rfl, rfl⟩)
  go_ret
  exact ⟨rfl, HW.out⟩

set_option maxRecDepth 100000 in
set_option maxHeartbeats 1000000 in
theorem right_z_t (op a b : Int) (A : Option Addr) (X c : Nat) (le mo rd ra lv la : Int) (w : World) (HF : Hid (∀ W, Calls Try.prog 84 #[.agg #[.int .i64 op, .int .i64 a, .int .i64 b, .slice A X c]] W (FormV ⟨0, le, mo, rd, ra, lv, la⟩ true W))) (hb : (b != 0) = false) (ha : (a != 0) = false) (hX : ¬ (0 : Int) < (X : Int)) (ho : (op == 0) = false) : Calls Try.prog 81 #[.agg #[.int .i64 op, .int .i64 a, .int .i64 b, .slice A X c]] w (RightV true w) := by
  have HB0 := Lib.hid (below_one w (.cells #[.int .i64 op, .int .i64 a, .int .i64 b, .slice A X c] 32))
  have B0 : Blk (w.alloc (.cells #[.int .i64 op, .int .i64 a, .int .i64 b, .slice A X c] 32)) w.heap.size 32 #[.int .i64 op, .int .i64 a, .int .i64 b, .slice A X c] := Blk.new _ _ _
  have HBX := Lib.hid B0; clear B0
  go_enter Try.func81, Try.ntmps81
  go_wp2_with fail
  refine (HF.out _).mono ?_
  rintro e w1 ⟨s, rfl, hb⟩
  have HB := Lib.hid (HB0.out.trans (hb.mono (by simp)))
  have hz := HB.out.size
  have hbx := HBX.out.below hb (by simp)
  have hlt := hbx.lt
  have c0 := hbx.cell 0; have c1 := hbx.cell 1; have c2 := hbx.cell 2; have c3 := hbx.cell 3
  simp at c0 c1 c2 c3
  have HW : Hid (Below w.heap.size w (w1.alloc (.cells #[.string s, .int .i64 0, .int .i64 le, .int .i64 mo, .int .i64 rd, .int .i64 ra, .int .i64 lv, .int .i64 la] 150))) := Lib.hid (HB.out.alloc hz _)
  clear hb hbx
  go_wp2_with (go_at_call 111; refine (within_any _ _ _ _).mono ?_; rintro e w7 ⟨rfl, rfl⟩)
  go_ret
  exact ⟨rfl, HW.out⟩

set_option maxRecDepth 100000 in
set_option maxHeartbeats 1000000 in
theorem right_o_b (op a b : Int) (A : Option Addr) (X c : Nat) (le mo rd ra lv la : Int) (w : World) (HF : Hid (∀ W, Calls Try.prog 84 #[.agg #[.int .i64 op, .int .i64 a, .int .i64 b, .slice A X c]] W (FormV ⟨1, le, mo, rd, ra, lv, la⟩ true W))) (hb : (b != 0) = true) : Calls Try.prog 81 #[.agg #[.int .i64 op, .int .i64 a, .int .i64 b, .slice A X c]] w (RightV false w) := by
  have HB0 := Lib.hid (below_one w (.cells #[.int .i64 op, .int .i64 a, .int .i64 b, .slice A X c] 32))
  have B0 : Blk (w.alloc (.cells #[.int .i64 op, .int .i64 a, .int .i64 b, .slice A X c] 32)) w.heap.size 32 #[.int .i64 op, .int .i64 a, .int .i64 b, .slice A X c] := Blk.new _ _ _
  have HBX := Lib.hid B0; clear B0
  go_enter Try.func81, Try.ntmps81
  go_wp2_with fail
  refine (HF.out _).mono ?_
  rintro e w1 ⟨s, rfl, hb⟩
  have HB := Lib.hid (HB0.out.trans (hb.mono (by simp)))
  have hz := HB.out.size
  have hbx := HBX.out.below hb (by simp)
  have hlt := hbx.lt
  have c0 := hbx.cell 0; have c1 := hbx.cell 1; have c2 := hbx.cell 2; have c3 := hbx.cell 3
  simp at c0 c1 c2 c3
  have HW : Hid (Below w.heap.size w (w1.alloc (.cells #[.string s, .int .i64 1, .int .i64 le, .int .i64 mo, .int .i64 rd, .int .i64 ra, .int .i64 lv, .int .i64 la] 150))) := Lib.hid (HB.out.alloc hz _)
  clear hb hbx
  go_wp2_with (go_at_call 111; refine (within_any _ _ _ _).mono ?_; rintro e w7 ⟨rfl, rfl⟩)
  go_ret
  exact ⟨rfl, HW.out⟩

set_option maxRecDepth 100000 in
set_option maxHeartbeats 1000000 in
theorem right_o_x (op a b : Int) (A : Option Addr) (X c : Nat) (le mo rd ra lv la : Int) (w : World) (HF : Hid (∀ W, Calls Try.prog 84 #[.agg #[.int .i64 op, .int .i64 a, .int .i64 b, .slice A X c]] W (FormV ⟨1, le, mo, rd, ra, lv, la⟩ true W))) (hb : (b != 0) = false) (hX : (0 : Int) < (X : Int)) : Calls Try.prog 81 #[.agg #[.int .i64 op, .int .i64 a, .int .i64 b, .slice A X c]] w (RightV false w) := by
  have HB0 := Lib.hid (below_one w (.cells #[.int .i64 op, .int .i64 a, .int .i64 b, .slice A X c] 32))
  have B0 : Blk (w.alloc (.cells #[.int .i64 op, .int .i64 a, .int .i64 b, .slice A X c] 32)) w.heap.size 32 #[.int .i64 op, .int .i64 a, .int .i64 b, .slice A X c] := Blk.new _ _ _
  have HBX := Lib.hid B0; clear B0
  go_enter Try.func81, Try.ntmps81
  go_wp2_with fail
  refine (HF.out _).mono ?_
  rintro e w1 ⟨s, rfl, hb⟩
  have HB := Lib.hid (HB0.out.trans (hb.mono (by simp)))
  have hz := HB.out.size
  have hbx := HBX.out.below hb (by simp)
  have hlt := hbx.lt
  have c0 := hbx.cell 0; have c1 := hbx.cell 1; have c2 := hbx.cell 2; have c3 := hbx.cell 3
  simp at c0 c1 c2 c3
  have HW : Hid (Below w.heap.size w (w1.alloc (.cells #[.string s, .int .i64 1, .int .i64 le, .int .i64 mo, .int .i64 rd, .int .i64 ra, .int .i64 lv, .int .i64 la] 150))) := Lib.hid (HB.out.alloc hz _)
  clear hb hbx
  go_wp2_with (go_at_call 111; refine (within_any _ _ _ _).mono ?_; rintro e w7 ⟨rfl, rfl⟩)
  go_ret
  exact ⟨rfl, HW.out⟩

set_option maxRecDepth 100000 in
set_option maxHeartbeats 1000000 in
theorem right_o_0 (op a b : Int) (A : Option Addr) (X c : Nat) (le mo rd ra lv la : Int) (w : World) (HF : Hid (∀ W, Calls Try.prog 84 #[.agg #[.int .i64 op, .int .i64 a, .int .i64 b, .slice A X c]] W (FormV ⟨1, le, mo, rd, ra, lv, la⟩ true W))) (hb : (b != 0) = false) (hX : ¬ (0 : Int) < (X : Int)) (ho : (op == 0) = true) : Calls Try.prog 81 #[.agg #[.int .i64 op, .int .i64 a, .int .i64 b, .slice A X c]] w (RightV true w) := by
  have HB0 := Lib.hid (below_one w (.cells #[.int .i64 op, .int .i64 a, .int .i64 b, .slice A X c] 32))
  have B0 : Blk (w.alloc (.cells #[.int .i64 op, .int .i64 a, .int .i64 b, .slice A X c] 32)) w.heap.size 32 #[.int .i64 op, .int .i64 a, .int .i64 b, .slice A X c] := Blk.new _ _ _
  have HBX := Lib.hid B0; clear B0
  go_enter Try.func81, Try.ntmps81
  go_wp2_with fail
  refine (HF.out _).mono ?_
  rintro e w1 ⟨s, rfl, hb⟩
  have HB := Lib.hid (HB0.out.trans (hb.mono (by simp)))
  have hz := HB.out.size
  have hbx := HBX.out.below hb (by simp)
  have hlt := hbx.lt
  have c0 := hbx.cell 0; have c1 := hbx.cell 1; have c2 := hbx.cell 2; have c3 := hbx.cell 3
  simp at c0 c1 c2 c3
  have HW : Hid (Below w.heap.size w (w1.alloc (.cells #[.string s, .int .i64 1, .int .i64 le, .int .i64 mo, .int .i64 rd, .int .i64 ra, .int .i64 lv, .int .i64 la] 150))) := Lib.hid (HB.out.alloc hz _)
  clear hb hbx
  go_wp2_with (go_at_call 111; refine (within_any _ _ _ _).mono ?_; rintro e w7 ⟨rfl, rfl⟩)
  go_ret
  exact ⟨rfl, HW.out⟩

set_option maxRecDepth 100000 in
set_option maxHeartbeats 1000000 in
theorem right_o_f (op a b : Int) (A : Option Addr) (X c : Nat) (le mo rd ra lv la : Int) (w : World) (HF : Hid (∀ W, Calls Try.prog 84 #[.agg #[.int .i64 op, .int .i64 a, .int .i64 b, .slice A X c]] W (FormV ⟨1, le, mo, rd, ra, lv, la⟩ true W))) (hb : (b != 0) = false) (hX : ¬ (0 : Int) < (X : Int)) (ho : (op == 0) = false) (hw : wthB le a mo = false) : Calls Try.prog 81 #[.agg #[.int .i64 op, .int .i64 a, .int .i64 b, .slice A X c]] w (RightV false w) := by
  have HB0 := Lib.hid (below_one w (.cells #[.int .i64 op, .int .i64 a, .int .i64 b, .slice A X c] 32))
  have B0 : Blk (w.alloc (.cells #[.int .i64 op, .int .i64 a, .int .i64 b, .slice A X c] 32)) w.heap.size 32 #[.int .i64 op, .int .i64 a, .int .i64 b, .slice A X c] := Blk.new _ _ _
  have HBX := Lib.hid B0; clear B0
  go_enter Try.func81, Try.ntmps81
  go_wp2_with fail
  refine (HF.out _).mono ?_
  rintro e w1 ⟨s, rfl, hb⟩
  have HB := Lib.hid (HB0.out.trans (hb.mono (by simp)))
  have hz := HB.out.size
  have hbx := HBX.out.below hb (by simp)
  have hlt := hbx.lt
  have c0 := hbx.cell 0; have c1 := hbx.cell 1; have c2 := hbx.cell 2; have c3 := hbx.cell 3
  simp at c0 c1 c2 c3
  have HW : Hid (Below w.heap.size w (w1.alloc (.cells #[.string s, .int .i64 1, .int .i64 le, .int .i64 mo, .int .i64 rd, .int .i64 ra, .int .i64 lv, .int .i64 la] 150))) := Lib.hid (HB.out.alloc hz _)
  clear hb hbx
  go_wp2_with (go_at_call 111; refine (within_any _ _ _ _).mono ?_; rintro e w7 ⟨rfl, rfl⟩)
  go_ret
  exact ⟨rfl, HW.out⟩

set_option maxRecDepth 100000 in
set_option maxHeartbeats 1000000 in
theorem right_o_g (op a b : Int) (A : Option Addr) (X c : Nat) (le mo rd ra lv la : Int) (w : World) (HF : Hid (∀ W, Calls Try.prog 84 #[.agg #[.int .i64 op, .int .i64 a, .int .i64 b, .slice A X c]] W (FormV ⟨1, le, mo, rd, ra, lv, la⟩ true W))) (hb : (b != 0) = false) (hX : ¬ (0 : Int) < (X : Int)) (ho : (op == 0) = false) (hw : wthB le a mo = true) (hv : wthB 0 b 255 = false) : Calls Try.prog 81 #[.agg #[.int .i64 op, .int .i64 a, .int .i64 b, .slice A X c]] w (RightV false w) := by
  have HB0 := Lib.hid (below_one w (.cells #[.int .i64 op, .int .i64 a, .int .i64 b, .slice A X c] 32))
  have B0 : Blk (w.alloc (.cells #[.int .i64 op, .int .i64 a, .int .i64 b, .slice A X c] 32)) w.heap.size 32 #[.int .i64 op, .int .i64 a, .int .i64 b, .slice A X c] := Blk.new _ _ _
  have HBX := Lib.hid B0; clear B0
  go_enter Try.func81, Try.ntmps81
  go_wp2_with fail
  refine (HF.out _).mono ?_
  rintro e w1 ⟨s, rfl, hb⟩
  have HB := Lib.hid (HB0.out.trans (hb.mono (by simp)))
  have hz := HB.out.size
  have hbx := HBX.out.below hb (by simp)
  have hlt := hbx.lt
  have c0 := hbx.cell 0; have c1 := hbx.cell 1; have c2 := hbx.cell 2; have c3 := hbx.cell 3
  simp at c0 c1 c2 c3
  have HW : Hid (Below w.heap.size w (w1.alloc (.cells #[.string s, .int .i64 1, .int .i64 le, .int .i64 mo, .int .i64 rd, .int .i64 ra, .int .i64 lv, .int .i64 la] 150))) := Lib.hid (HB.out.alloc hz _)
  clear hb hbx
  go_wp2_with (go_at_call 111; refine (within_any _ _ _ _).mono ?_; rintro e w7 ⟨rfl, rfl⟩)
  go_ret
  exact ⟨rfl, HW.out⟩

set_option maxRecDepth 100000 in
set_option maxHeartbeats 1000000 in
theorem right_o_t (op a b : Int) (A : Option Addr) (X c : Nat) (le mo rd ra lv la : Int) (w : World) (HF : Hid (∀ W, Calls Try.prog 84 #[.agg #[.int .i64 op, .int .i64 a, .int .i64 b, .slice A X c]] W (FormV ⟨1, le, mo, rd, ra, lv, la⟩ true W))) (hb : (b != 0) = false) (hX : ¬ (0 : Int) < (X : Int)) (ho : (op == 0) = false) (hw : wthB le a mo = true) (hv : wthB 0 b 255 = true) : Calls Try.prog 81 #[.agg #[.int .i64 op, .int .i64 a, .int .i64 b, .slice A X c]] w (RightV true w) := by
  have HB0 := Lib.hid (below_one w (.cells #[.int .i64 op, .int .i64 a, .int .i64 b, .slice A X c] 32))
  have B0 : Blk (w.alloc (.cells #[.int .i64 op, .int .i64 a, .int .i64 b, .slice A X c] 32)) w.heap.size 32 #[.int .i64 op, .int .i64 a, .int .i64 b, .slice A X c] := Blk.new _ _ _
  have HBX := Lib.hid B0; clear B0
  go_enter Try.func81, Try.ntmps81
  go_wp2_with fail
  refine (HF.out _).mono ?_
  rintro e w1 ⟨s, rfl, hb⟩
  have HB := Lib.hid (HB0.out.trans (hb.mono (by simp)))
  have hz := HB.out.size
  have hbx := HBX.out.below hb (by simp)
  have hlt := hbx.lt
  have c0 := hbx.cell 0; have c1 := hbx.cell 1; have c2 := hbx.cell 2; have c3 := hbx.cell 3
  simp at c0 c1 c2 c3
  have HW : Hid (Below w.heap.size w (w1.alloc (.cells #[.string s, .int .i64 1, .int .i64 le, .int .i64 mo, .int .i64 rd, .int .i64 ra, .int .i64 lv, .int .i64 la] 150))) := Lib.hid (HB.out.alloc hz _)
  clear hb hbx
  go_wp2_with (go_at_call 111; refine (within_any _ _ _ _).mono ?_; rintro e w7 ⟨rfl, rfl⟩)
  go_ret
  exact ⟨rfl, HW.out⟩

set_option maxRecDepth 100000 in
set_option maxHeartbeats 1000000 in
theorem right_t_x (op a b : Int) (A : Option Addr) (X c : Nat) (le mo rd ra lv la : Int) (w : World) (HF : Hid (∀ W, Calls Try.prog 84 #[.agg #[.int .i64 op, .int .i64 a, .int .i64 b, .slice A X c]] W (FormV ⟨2, le, mo, rd, ra, lv, la⟩ true W))) (hX : (0 : Int) < (X : Int)) : Calls Try.prog 81 #[.agg #[.int .i64 op, .int .i64 a, .int .i64 b, .slice A X c]] w (RightV false w) := by
  have HB0 := Lib.hid (below_one w (.cells #[.int .i64 op, .int .i64 a, .int .i64 b, .slice A X c] 32))
  have B0 : Blk (w.alloc (.cells #[.int .i64 op, .int .i64 a, .int .i64 b, .slice A X c] 32)) w.heap.size 32 #[.int .i64 op, .int .i64 a, .int .i64 b, .slice A X c] := Blk.new _ _ _
  have HBX := Lib.hid B0; clear B0
  go_enter Try.func81, Try.ntmps81
  go_wp2_with fail
  refine (HF.out _).mono ?_
  rintro e w1 ⟨s, rfl, hb⟩
  have HB := Lib.hid (HB0.out.trans (hb.mono (by simp)))
  have hz := HB.out.size
  have hbx := HBX.out.below hb (by simp)
  have hlt := hbx.lt
  have c0 := hbx.cell 0; have c1 := hbx.cell 1; have c2 := hbx.cell 2; have c3 := hbx.cell 3
  simp at c0 c1 c2 c3
  have HW : Hid (Below w.heap.size w (w1.alloc (.cells #[.string s, .int .i64 2, .int .i64 le, .int .i64 mo, .int .i64 rd, .int .i64 ra, .int .i64 lv, .int .i64 la] 150))) := Lib.hid (HB.out.alloc hz _)
  clear hb hbx
  go_wp2_with (go_at_call 111; refine (within_any _ _ _ _).mono ?_; rintro e w7 ⟨rfl, rfl⟩)
  go_ret
  exact ⟨rfl, HW.out⟩

set_option maxRecDepth 100000 in
set_option maxHeartbeats 1000000 in
theorem right_t_f (op a b : Int) (A : Option Addr) (X c : Nat) (le mo rd ra lv la : Int) (w : World) (HF : Hid (∀ W, Calls Try.prog 84 #[.agg #[.int .i64 op, .int .i64 a, .int .i64 b, .slice A X c]] W (FormV ⟨2, le, mo, rd, ra, lv, la⟩ true W))) (hX : ¬ (0 : Int) < (X : Int)) (ho : (op == 0) = false) (hw : wthB le a mo = false) : Calls Try.prog 81 #[.agg #[.int .i64 op, .int .i64 a, .int .i64 b, .slice A X c]] w (RightV false w) := by
  have HB0 := Lib.hid (below_one w (.cells #[.int .i64 op, .int .i64 a, .int .i64 b, .slice A X c] 32))
  have B0 : Blk (w.alloc (.cells #[.int .i64 op, .int .i64 a, .int .i64 b, .slice A X c] 32)) w.heap.size 32 #[.int .i64 op, .int .i64 a, .int .i64 b, .slice A X c] := Blk.new _ _ _
  have HBX := Lib.hid B0; clear B0
  go_enter Try.func81, Try.ntmps81
  go_wp2_with fail
  refine (HF.out _).mono ?_
  rintro e w1 ⟨s, rfl, hb⟩
  have HB := Lib.hid (HB0.out.trans (hb.mono (by simp)))
  have hz := HB.out.size
  have hbx := HBX.out.below hb (by simp)
  have hlt := hbx.lt
  have c0 := hbx.cell 0; have c1 := hbx.cell 1; have c2 := hbx.cell 2; have c3 := hbx.cell 3
  simp at c0 c1 c2 c3
  have HW : Hid (Below w.heap.size w (w1.alloc (.cells #[.string s, .int .i64 2, .int .i64 le, .int .i64 mo, .int .i64 rd, .int .i64 ra, .int .i64 lv, .int .i64 la] 150))) := Lib.hid (HB.out.alloc hz _)
  clear hb hbx
  go_wp2_with (go_at_call 111; refine (within_any _ _ _ _).mono ?_; rintro e w7 ⟨rfl, rfl⟩)
  go_ret
  exact ⟨rfl, HW.out⟩

set_option maxRecDepth 100000 in
set_option maxHeartbeats 1000000 in
theorem right_t_g (op a b : Int) (A : Option Addr) (X c : Nat) (le mo rd ra lv la : Int) (w : World) (HF : Hid (∀ W, Calls Try.prog 84 #[.agg #[.int .i64 op, .int .i64 a, .int .i64 b, .slice A X c]] W (FormV ⟨2, le, mo, rd, ra, lv, la⟩ true W))) (hX : ¬ (0 : Int) < (X : Int)) (ho : (op == 0) = false) (hw : wthB le a mo = true) (hv : wthB 0 b 255 = false) : Calls Try.prog 81 #[.agg #[.int .i64 op, .int .i64 a, .int .i64 b, .slice A X c]] w (RightV false w) := by
  have HB0 := Lib.hid (below_one w (.cells #[.int .i64 op, .int .i64 a, .int .i64 b, .slice A X c] 32))
  have B0 : Blk (w.alloc (.cells #[.int .i64 op, .int .i64 a, .int .i64 b, .slice A X c] 32)) w.heap.size 32 #[.int .i64 op, .int .i64 a, .int .i64 b, .slice A X c] := Blk.new _ _ _
  have HBX := Lib.hid B0; clear B0
  go_enter Try.func81, Try.ntmps81
  go_wp2_with fail
  refine (HF.out _).mono ?_
  rintro e w1 ⟨s, rfl, hb⟩
  have HB := Lib.hid (HB0.out.trans (hb.mono (by simp)))
  have hz := HB.out.size
  have hbx := HBX.out.below hb (by simp)
  have hlt := hbx.lt
  have c0 := hbx.cell 0; have c1 := hbx.cell 1; have c2 := hbx.cell 2; have c3 := hbx.cell 3
  simp at c0 c1 c2 c3
  have HW : Hid (Below w.heap.size w (w1.alloc (.cells #[.string s, .int .i64 2, .int .i64 le, .int .i64 mo, .int .i64 rd, .int .i64 ra, .int .i64 lv, .int .i64 la] 150))) := Lib.hid (HB.out.alloc hz _)
  clear hb hbx
  go_wp2_with (go_at_call 111; refine (within_any _ _ _ _).mono ?_; rintro e w7 ⟨rfl, rfl⟩)
  go_ret
  exact ⟨rfl, HW.out⟩

set_option maxRecDepth 100000 in
set_option maxHeartbeats 1000000 in
theorem right_t_t (op a b : Int) (A : Option Addr) (X c : Nat) (le mo rd ra lv la : Int) (w : World) (HF : Hid (∀ W, Calls Try.prog 84 #[.agg #[.int .i64 op, .int .i64 a, .int .i64 b, .slice A X c]] W (FormV ⟨2, le, mo, rd, ra, lv, la⟩ true W))) (hX : ¬ (0 : Int) < (X : Int)) (ho : (op == 0) = false) (hw : wthB le a mo = true) (hv : wthB 0 b 255 = true) : Calls Try.prog 81 #[.agg #[.int .i64 op, .int .i64 a, .int .i64 b, .slice A X c]] w (RightV true w) := by
  have HB0 := Lib.hid (below_one w (.cells #[.int .i64 op, .int .i64 a, .int .i64 b, .slice A X c] 32))
  have B0 : Blk (w.alloc (.cells #[.int .i64 op, .int .i64 a, .int .i64 b, .slice A X c] 32)) w.heap.size 32 #[.int .i64 op, .int .i64 a, .int .i64 b, .slice A X c] := Blk.new _ _ _
  have HBX := Lib.hid B0; clear B0
  go_enter Try.func81, Try.ntmps81
  go_wp2_with fail
  refine (HF.out _).mono ?_
  rintro e w1 ⟨s, rfl, hb⟩
  have HB := Lib.hid (HB0.out.trans (hb.mono (by simp)))
  have hz := HB.out.size
  have hbx := HBX.out.below hb (by simp)
  have hlt := hbx.lt
  have c0 := hbx.cell 0; have c1 := hbx.cell 1; have c2 := hbx.cell 2; have c3 := hbx.cell 3
  simp at c0 c1 c2 c3
  have HW : Hid (Below w.heap.size w (w1.alloc (.cells #[.string s, .int .i64 2, .int .i64 le, .int .i64 mo, .int .i64 rd, .int .i64 ra, .int .i64 lv, .int .i64 la] 150))) := Lib.hid (HB.out.alloc hz _)
  clear hb hbx
  go_wp2_with (go_at_call 111; refine (within_any _ _ _ _).mono ?_; rintro e w7 ⟨rfl, rfl⟩)
  go_ret
  exact ⟨rfl, HW.out⟩
end Go.Proofs.Ytfeghobfkgimfaa
