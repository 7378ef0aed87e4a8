/- Is there a global whose arity is none? -/
import Derived.Test.YtfeghobfkgimfaaIter
import Derived.Test.YtfeghobfkgimfaaInstrD
namespace Go.Proofs.Ytfeghobfkgimfaa
open Go.RowKit

def arB (a : Int) : Bool := decide (a < 0) || decide (255 < a)
def arsOk (C : CodeD) : Prop := ∀ i, i < C.gl → 0 ≤ C.ar i ∧ C.ar i ≤ 255
open Classical in
noncomputable def arsB (C : CodeD) : Bool := decide (arsOk C)
def GlobsAt (w : World) (C : CodeD) (G : Option Addr) : Prop := 0 < C.gl → ∃ g o, G = some ⟨g, o, none⟩ ∧ g < w.heap.size ∧ ∀ i, i < C.gl → ∃ s, w.cell? ⟨g, o + i * 3, none⟩ = some (.string s) ∧ w.cell? ⟨g, o + i * 3 + 1, none⟩ = some (.int .i64 (C.ar i)) ∧ w.cell? ⟨g, o + i * 3 + 2, none⟩ = some (.int .i64 (C.en i))

set_option maxRecDepth 100000 in
theorem ar_any (s : ByteArray) (a e : Int) (w : World) : Calls Try.prog 42 #[.agg #[.string s, .int .i64 a, .int .i64 e]] w (RightV (arB a) w) := by
  unfold arB
  have h : decide (a < 0) = true ∨ decide (a < 0) = false := by cases decide (a < 0) <;> simp
  rcases h with h | h
  · go_enter Try.func42, Try.ntmps42
    go_wp2_with fail
    go_ret
    exact ⟨ret_bool (by simp [h]), below1' _⟩
  · go_enter Try.func42, Try.ntmps42
    go_wp2_with fail
    go_ret
    exact ⟨ret_bool (by simp [h]), below1' _⟩

/-- IndexFunc's answer. -/
def IdxV (C : CodeD) (w : World) (e : Ending) (w' : World) : Prop := (∃ z : Int, e = .returned (.int .i64 z) ∧ ((0 ≤ z ∧ ¬ arsOk C) ∨ (z = -1 ∧ arsOk C))) ∧ Below w.heap.size w w'

set_option maxRecDepth 100000 in
set_option maxHeartbeats 1000000 in
theorem idx_any (C : CodeD) (G : Option Addr) (gc : Nat) (w : World) (hgl : C.gl ≤ 65536) (hG : GlobsAt w C G) :
    Calls Try.prog 79 #[.slice G C.gl gc, .func (.func 42) #[] #[]] w (IdxV C w) := by
  go_enter Try.func79, Try.ntmps79
  go_wp2_with fail
  have HG := Lib.hid hG
  clear hG
  go_loopg [8] C.gl (fun gk i wr => ∃ j : Nat, j ≤ C.gl ∧ gk = C.gl - j ∧ i = .int .i64 j ∧ Hid (∀ k, k < j → 0 ≤ C.ar k ∧ C.ar k ≤ 255) ∧ Hid (Below w.heap.size w wr))
  case atStart => exact ⟨0, Nat.zero_le _, rfl, rfl, Lib.hid (fun k hk => absurd hk (by omega)), Lib.hid (Below.refl _ _)⟩
  case round =>
    obtain ⟨j, hj, rfl, rfl, HALL, HBR⟩ := hrel
    by_cases hlt : j < C.gl
    · obtain ⟨g, o, rfl, hgT, hcs⟩ := HG.out (by omega)
      obtain ⟨s, e0, e1, e2⟩ := hcs j hlt
      have c0 := (HBR.out.cell (p := ⟨g, o + j * 3, none⟩) hgT).trans e0
      have c1 := (HBR.out.cell (p := ⟨g, o + j * 3 + 1, none⟩) hgT).trans e1
      have c2 := (HBR.out.cell (p := ⟨g, o + j * 3 + 2, none⟩) hgT).trans e2
      obtain ⟨a, ha⟩ : ∃ a, a = C.ar j := ⟨_, rfl⟩
      obtain ⟨en, hen⟩ : ∃ a, a = C.en j := ⟨_, rfl⟩
      rw [← ha] at c1; rw [← hen] at c2
      have HA := Lib.hid ha
      have hj1 : (j : Int) < (C.gl : Int) := by omega
      have hz := HBR.out.size
      clear hcs e0 e1 e2 ha hen
      go_wp2_with fail
      refine (ar_any _ _ _ _).mono ?_
      rintro e w2 ⟨rfl, hb2⟩
      have HB2 := Lib.hid (HBR.out.trans (hb2.mono hz))
      clear hb2 c0 c1 c2
      cases hq : arB a with
      | true =>
        go_wp2_with fail
        go_ret
        exact ⟨⟨_, rfl, .inl ⟨by omega, fun h => by have := h j hlt; rw [← HA.out] at this; simp [arB] at hq; omega⟩⟩, HB2.out⟩
      | false =>
        go_wp2_with fail
        go_roundg (C.gl - (j + 1))
        case rel => exact ⟨j + 1, by omega, rfl, by go_num, Lib.hid (all_succ HALL.out (by rw [← HA.out]; simp [arB] at hq; omega)), HB2⟩
        case measure => omega
    · obtain rfl : j = C.gl := by omega
      go_wp2_with fail
      go_ret
      exact ⟨⟨_, rfl, .inr ⟨rfl, fun k hk => HALL.out k hk⟩⟩, HBR.out⟩

set_option maxRecDepth 100000 in
theorem any41 (C : CodeD) (G : Option Addr) (gc : Nat) (w : World) (hgl : C.gl ≤ 65536) (hG : GlobsAt w C G) :
    Calls Try.prog 41 #[.slice G C.gl gc, .func (.func 42) #[] #[]] w (RightV (!arsB C) w) := by
  go_enter Try.func41, Try.ntmps41
  go_wp2_with fail
  refine (idx_any C G gc w hgl hG).mono ?_
  rintro e w2 ⟨⟨z, rfl, hz⟩, hb⟩
  rcases hz with ⟨h0, hn⟩ | ⟨rfl, hy⟩
  · have e : arsB C = false := by simp [arsB, hn]
    have HE := Lib.hid e
    clear hn e
    go_wp2_with fail
    go_ret
    exact ⟨ret_bool (by rw [HE.out]; rfl), hb⟩
  · have e : arsB C = true := by simp [arsB, hy]
    have HE := Lib.hid e
    clear hy e
    go_wp2_with fail
    go_ret
    exact ⟨ret_bool (by rw [HE.out]; rfl), hb⟩
end Go.Proofs.Ytfeghobfkgimfaa
