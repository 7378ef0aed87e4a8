/- light of one act: what it says true of has few args. -/
import Derived.Test.YtfeghobfkgimfaaActs
namespace Go.Proofs.Ytfeghobfkgimfaa
open Go.RowKit Go.Shelf

def LightO (n : Nat) (w : World) (e : Ending) (w' : World) : Prop := ∃ bb : Bool, e = .returned (.bool bb) ∧ (bb = true → n ≤ 600) ∧ ∃ q, w' = w.drewN q

set_option maxRecDepth 100000 in
set_option maxHeartbeats 1000000 in
theorem light_one (A : Option Addr) (cap : Nat) (x : ActD) (w : World) (h : ActsSl w A cap [x]) (hn : x.nl ≤ 140737488351232) (hr : x.rl ≤ 140737488351232) :
    Calls Try.prog 15 #[.slice A 1 cap] w (LightO x.nl w) := by
  have helt : ∃ g o, A = some ⟨g, o, none⟩ ∧ ActCells w g o x := by
    obtain ⟨_, _, hx⟩ := h
    obtain ⟨g, o, ha, hb, hc⟩ := hx (by simp)
    exact ⟨g, o, ha, by simpa using hc 0 (by simp)⟩
  clear h
  obtain ⟨g, o, rfl, hc⟩ := helt
  have c5 := hc.c5; have c6 := hc.c6
  clear hc
  have C5 := Lib.hid c5; have C6 := Lib.hid c6
  clear c5 c6
  go_enter Try.func15, Try.ntmps15
  go_upto_region 3 with fail
  go_loopg [3, 4] 1 (fun gk left i wr => ∃ (j : Nat) (z : Int), j ≤ 1 ∧ gk = 1 - j ∧ i = .int .i64 j ∧ left = .int .i64 z ∧ (j = 0 → z = 600) ∧ (j = 1 → z = 600 - (x.nl : Int) - (x.rl : Int)) ∧ ∃ q, wr = w.drewN q)
  case atStart => exact ⟨0, 600, by omega, by omega, rfl, rfl, fun _ => rfl, fun h => by omega, 0, rfl⟩
  case round =>
    obtain ⟨j, z, hj, rfl, rfl, rfl, hz0, hz1, q, rfl⟩ := hrel
    by_cases hlt : j = 0
    · subst hlt
      obtain rfl : z = 600 := hz0 rfl
      have c5 := C5.out; have c6 := C6.out
      clear hz0 hz1
      go_upto_region 5 with fail
      go_quiet (fail)
      go_wp2_with fail
      go_roundg 0
      case measure => omega
      case rel => exact ⟨1, _, by omega, by omega, rfl, rfl, fun h => by omega, fun _ => by go_num, _, rfl⟩
    · obtain rfl : j = 1 := by omega
      have hz := hz1 rfl
      clear hz0 hz1
      by_cases h0 : 0 ≤ z
      · go_wp2_with fail
        go_ret
        exact ⟨_, rfl, fun _ => by omega, _, rfl⟩
      · go_wp2_with fail
        go_ret
        exact ⟨_, rfl, fun h => by simp at h; omega, _, rfl⟩
end Go.Proofs.Ytfeghobfkgimfaa
