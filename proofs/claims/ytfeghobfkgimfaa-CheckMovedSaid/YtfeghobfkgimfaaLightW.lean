/- Light: code that is small. -/
import Derived.Test.YtfeghobfkgimfaaOwnD
namespace Go.Proofs.Ytfeghobfkgimfaa
open Go.RowKit Go.Shelf

/-- What is small. -/
def SmallC (C : CodeD) : Prop := C.gl ≤ 60 ∧ C.ni ≤ 200 ∧ ∀ i, i < C.ni → (C.ins i).t.length ≤ 400
/-- No name and no table takes more than there is. -/
structure RoomC (w : World) (C : CodeD) (G : Option Addr) : Prop where
  gl : C.gl ≤ maxLen
  ni : C.ni ≤ maxLen
  nm : ∀ g o, G = some ⟨g, o, none⟩ → ∀ i, i < C.gl → ∀ s, w.cell? ⟨g, o + i * 3, none⟩ = some (.string s) → s.size ≤ 140737488355328
  tl : ∀ i, i < C.ni → (C.ins i).t.length ≤ 140737488355328
/-- Light's answer. -/
def LightV (C : CodeD) (w : World) (e : Ending) (W : World) : Prop := ∃ b, e = .returned (.bool b) ∧ Below w.heap.size w W ∧ (b = true → SmallC C)

theorem ret_b {a b : Bool} (h : a = b) : Ending.returned (.bool a) = .returned (.bool b) := by rw [h]

set_option maxRecDepth 100000 in
set_option maxHeartbeats 1000000 in
theorem light_any (C : CodeD) (G I : Option Addr) (gc ic : Nat) (w : World) (hC : CodeAt w C G gc I ic) (hR : RoomC w C G) :
    Calls Try.prog 12 #[.agg #[.slice G C.gl gc, .slice I C.ni ic]] w (LightV C w) := by
  have hgl := hR.gl; have hni := hR.ni
  unfold maxLen at hgl hni
  have hB := below1' (w := w) (.cells #[.slice G C.gl gc, .slice I C.ni ic] 39)
  have HB := Lib.hid hB; have HC := Lib.hid hC; have HR := Lib.hid hR
  obtain ⟨ni, hn⟩ : ∃ n, n = C.ni := ⟨_, rfl⟩
  obtain ⟨gl, hg⟩ : ∃ n, n = C.gl := ⟨_, rfl⟩
  rw [← hn] at hni HB ⊢; rw [← hg] at hgl HB ⊢
  have HN := Lib.hid hn; have HG := Lib.hid hg
  clear hB hC hR hn hg
  by_cases h60 : 60 < gl
  · have d60 : decide ((60 : Int) < (gl : Int)) = true := by simp; omega
    go_enter Try.func12, Try.ntmps12
    go_wp2_with fail
    go_ret
    exact ⟨_, rfl, HB.out, fun h => by cases h⟩
  · have d60 : decide ((60 : Int) < (gl : Int)) = false := by simp; omega
    by_cases h200 : 200 < ni
    · have d200 : decide ((200 : Int) < (ni : Int)) = true := by simp; omega
      go_enter Try.func12, Try.ntmps12
      go_wp2_with fail
      go_ret
      exact ⟨_, rfl, HB.out, fun h => by cases h⟩
    · have d200 : decide ((200 : Int) < (ni : Int)) = false := by simp; omega
      go_enter Try.func12, Try.ntmps12
      go_wp2_with fail
      go_loopg [3, 4] gl (fun gk left i wr => ∃ (k : Nat) (z : Int), k ≤ gl ∧ gk = gl - k ∧ i = .int .i64 k ∧ left = .int .i64 z ∧ z ≤ 400 ∧ -(k : Int) * 140737488355328 ≤ z ∧ wr = w.alloc (.cells #[.slice G gl gc, .slice I ni ic] 39))
      case atStart => exact ⟨0, 400, Nat.zero_le _, rfl, rfl, rfl, by omega, by omega, rfl⟩
      case round =>
        obtain ⟨k, z, hk, rfl, rfl, rfl, hz1, hz2, rfl⟩ := hrel
        by_cases hlt : k < gl
        · obtain ⟨g, o, rfl, hgw, hcs⟩ := HC.out.gs (by have := HG.out; omega)
          obtain ⟨s, e0, _, _⟩ := hcs k (by rw [← HG.out]; exact hlt)
          have hs := HR.out.nm g o rfl k (by rw [← HG.out]; exact hlt) s e0
          have g0 := (cell_old1 (o := .cells #[.slice (some ⟨g, o, none⟩) gl gc, .slice I ni ic] 39) hgw).trans e0
          have hk1 : (k : Int) < (gl : Int) := by omega
          clear hcs e0
          go_wp2_with fail
          go_roundg (gl - (k + 1))
          case measure => omega
          case rel => exact ⟨k + 1, _, by omega, rfl, by go_num, rfl, by omega, by omega, rfl⟩
        · obtain rfl : k = gl := by omega
          clear hlt hk
          go_wp2_with fail
          go_loopg [3, 5] ni (fun gk left i wr => ∃ (k2 : Nat) (z2 : Int), k2 ≤ ni ∧ gk = ni - k2 ∧ i = .int .i64 k2 ∧ left = .int .i64 z2 ∧ z2 ≤ 400 ∧ -((k : Int) + k2) * 140737488355328 ≤ z2 ∧ Hid (∀ i, i < k2 → ((C.ins i).t.length : Int) ≤ 400 - z2) ∧ wr = w.alloc (.cells #[.slice G k gc, .slice I ni ic] 39))
          case atStart => exact ⟨0, z, Nat.zero_le _, rfl, rfl, rfl, hz1, by omega, Lib.hid (fun i hi => by omega), rfl⟩
          case round =>
            obtain ⟨k2, z2, hk2, rfl, rfl, rfl, hy1, hy2, HT, rfl⟩ := hrel
            by_cases hlt : k2 < ni
            · obtain ⟨g, o, rfl, hgw, hcs⟩ := HC.out.is (by have := HN.out; omega)
              obtain ⟨T, tc, _, _, _, e3, ht⟩ := hcs k2 (by rw [← HN.out]; exact hlt)
              have hs := HR.out.tl k2 (by rw [← HN.out]; exact hlt)
              obtain ⟨X, hX⟩ : ∃ X, X = (C.ins k2).t.length := ⟨_, rfl⟩
              rw [← hX] at e3 hs
              have g0 := (cell_old1 (o := .cells #[.slice G k gc, .slice (some ⟨g, o, none⟩) ni ic] 39) hgw).trans e3
              have hk1 : (k2 : Int) < (ni : Int) := by omega
              have HX := Lib.hid hX
              clear hcs e3 ht hX
              go_wp2_with fail
              go_roundg (ni - (k2 + 1))
              case measure => omega
              case rel => exact ⟨k2 + 1, _, by omega, rfl, by go_num, rfl, by omega, by omega, Lib.hid (fun i hi => by
                by_cases h : i < k2
                · have := HT.out i h; omega
                · obtain rfl : i = k2 := by omega
                  rw [← HX.out]; omega), rfl⟩
            · obtain rfl : k2 = ni := by omega
              clear hlt hk2
              go_wp2_with fail
              go_ret
              exact ⟨_, rfl, HB.out, fun h => ⟨by rw [← HG.out]; omega, by rw [← HN.out]; omega, fun i hi => by
                have h1 := HT.out i (by rw [HN.out]; exact hi)
                have h2 : 0 ≤ z2 := by simpa using h
                omega⟩⟩
end Go.Proofs.Ytfeghobfkgimfaa
