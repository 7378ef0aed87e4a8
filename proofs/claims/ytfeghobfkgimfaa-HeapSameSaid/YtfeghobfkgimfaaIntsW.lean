/- ints at two equal lists: it answers true. -/
import Derived.Test.YtfeghobfkgimfaaHeapU
namespace Go.Proofs.Ytfeghobfkgimfaa
open Go.RowKit

set_option maxRecDepth 100000 in
set_option maxHeartbeats 1000000 in
theorem ints_same (S T : Nat → Prop) (A B : Option Addr) (ca cb : Nat) (xs : List Int) (w : World) (hx : IntSl S w A ca xs) (hy : IntSl T w B cb xs) (hb : xs.length ≤ 1000000000000) :
    Calls Try.prog 26 #[.slice A xs.length ca, .slice B xs.length cb] w fun e w' => e = .returned (.bool true) ∧ ∃ q, w' = w.drewN q := by
  have HX := Lib.hid hx; have HY := Lib.hid hy
  obtain ⟨X, hX⟩ : ∃ X, X = xs.length := ⟨_, rfl⟩
  rw [← hX] at hb ⊢
  have HL := Lib.hid hX
  clear hx hy hX
  go_enter Try.func26, Try.ntmps26
  go_wp2_with fail
  go_loopg [5] X (fun gk i wr => ∃ (j q : Nat), j ≤ X ∧ gk = X - j ∧ i = .int .i64 j ∧ wr = w.drewN q)
  case atStart => exact ⟨0, 0, Nat.zero_le _, rfl, rfl, rfl⟩
  case round =>
    obtain ⟨j, q, hj, rfl, rfl, rfl⟩ := hrel
    by_cases hlt : j < X
    · have helt : ∃ g o g' o' z, A = some ⟨g, o, none⟩ ∧ B = some ⟨g', o', none⟩ ∧ w.cell? ⟨g, o + j, none⟩ = some (.int .i64 z) ∧ w.cell? ⟨g', o' + j, none⟩ = some (.int .i64 z) := by
        have h0 := HL.out
        obtain ⟨g, o, hA, _, _, h1⟩ := HX.out.2 (by omega)
        obtain ⟨g', o', hB, _, _, h2⟩ := HY.out.2 (by omega)
        exact ⟨g, o, g', o', _, hA, hB, h1 j (by omega), h2 j (by omega)⟩
      obtain ⟨g, o, g', o', z, rfl, rfl, c1, c2⟩ := helt
      have hi0 : (0 : Int) ≤ (j : Int) := Int.natCast_nonneg _
      have hi1 : (j : Int) < (X : Int) := by omega
      go_upto_region 6 with fail
      go_quiet (fail)
      go_wp2_with fail
      go_roundg (X - (j + 1))
      case measure => omega
      case rel => exact ⟨j + 1, _, by omega, rfl, by go_num, rfl⟩
    · have hi1 : ¬ (j : Int) < (X : Int) := by omega
      go_wp2_with fail
      go_ret
      exact ⟨rfl, _, rfl⟩
end Go.Proofs.Ytfeghobfkgimfaa
