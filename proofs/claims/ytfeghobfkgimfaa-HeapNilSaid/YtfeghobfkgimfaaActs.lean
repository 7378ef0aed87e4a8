/- Acts: a slice of them as its cells; light reads their lengths. -/
import Derived.Test.YtfeghobfkgimfaaKnows
namespace Go.Proofs.Ytfeghobfkgimfaa
open Go.RowKit Go.Shelf

/-- A slice of ints, wherever it lies. -/
def SlI (w : World) (A : Option Addr) (cap : Nat) (xs : List Int) : Prop :=
  xs.length ≤ cap ∧ (0 < xs.length → ∃ a, A = some a ∧ a.block < w.heap.size ∧ ∀ j (h : j < xs.length), w.cell? (a.add j) = some (.int .i64 xs[j]))

structure ActD where
  (k at_ tt nk nn : Int) (na : Option Addr) (nl ncap : Nat) (ra : Option Addr) (rl rcap : Nat)

/-- An act's seven cells. -/
structure ActCells (w : World) (g p : Nat) (x : ActD) : Prop where
  c0 : w.cell? ⟨g, p, none⟩ = some (.int .i64 x.k)
  c1 : w.cell? ⟨g, p + 1, none⟩ = some (.int .i64 x.at_)
  c2 : w.cell? ⟨g, p + 2, none⟩ = some (.int .i64 x.tt)
  c3 : w.cell? ⟨g, p + 3, none⟩ = some (.int .i64 x.nk)
  c4 : w.cell? ⟨g, p + 3 + 1, none⟩ = some (.int .i64 x.nn)
  c5 : w.cell? ⟨g, p + 3 + 2, none⟩ = some (.slice x.na x.nl x.ncap)
  c6 : w.cell? ⟨g, p + 6, none⟩ = some (.slice x.ra x.rl x.rcap)
  nm : x.nl ≤ maxLen
  rm : x.rl ≤ maxLen

def ActsSl (w : World) (A : Option Addr) (cap : Nat) (l : List ActD) : Prop :=
  l.length ≤ cap ∧ l.length ≤ maxLen ∧ (0 < l.length → ∃ g o, A = some ⟨g, o, none⟩ ∧ g < w.heap.size ∧ ∀ i (h : i < l.length), ActCells w g (o + i * 7) l[i])

def LightV (R : Nat) (w : World) (e : Ending) (w' : World) : Prop := ∃ bb : Bool, e = .returned (.bool bb) ∧ (bb = true → R ≤ 120) ∧ ∃ q, w' = w.drewN q

set_option maxRecDepth 100000 in
set_option maxHeartbeats 1000000 in
theorem light_any (A : Option Addr) (cap : Nat) (l : List ActD) (w : World) (h : ActsSl w A cap l) :
    Calls Try.prog 15 #[.slice A l.length cap] w (LightV l.length w) := by
  have H := Lib.hid h
  have hm : l.length ≤ maxLen := h.2.1
  clear h
  obtain ⟨R, hR⟩ : ∃ R, R = l.length := ⟨_, rfl⟩
  rw [← hR] at hm ⊢
  have HR := Lib.hid hR; clear hR
  unfold maxLen at hm
  go_enter Try.func15, Try.ntmps15
  go_upto_region 3 with fail
  go_loopg [3, 4] R (fun gk left i wr => ∃ j : Nat, j ≤ R ∧ j ≤ 130 ∧ gk = R - j ∧ i = .int .i64 j ∧ (∃ z : Int, left = .int .i64 z) ∧ ∃ q, wr = w.drewN q)
  case atStart => exact ⟨0, Nat.zero_le _, by omega, rfl, rfl, ⟨600, rfl⟩, 0, rfl⟩
  case round =>
    obtain ⟨j, hj, hj2, rfl, rfl, ⟨z, rfl⟩, q, rfl⟩ := hrel
    by_cases hlt : j < R
    · have helt : ∃ g o y, A = some ⟨g, o, none⟩ ∧ ActCells w g (o + j * 7) y := by
        obtain ⟨_, _, hx⟩ := H.out
        obtain ⟨g, o, ha, hb, hc⟩ := hx (by rw [← HR.out]; omega)
        exact ⟨g, o, _, ha, hc j (by rw [← HR.out]; exact hlt)⟩
      obtain ⟨g, o, x, rfl, hc⟩ := helt
      have c5 := hc.c5; have c6 := hc.c6
      clear hc
      have hi1 : (j : Int) < (R : Int) := by omega
      by_cases h130 : j < 130
      · have hi2 : (j : Int) < 130 := by omega
        go_upto_region 5 with fail
        go_quiet (fail)
        go_wp2_with fail
        go_roundg (R - (j + 1))
        case measure => omega
        case rel => exact ⟨j + 1, by omega, by omega, rfl, by go_num, ⟨_, rfl⟩, _, rfl⟩
      · have hi2 : ¬ (j : Int) < 130 := by omega
        by_cases h120 : R ≤ 120
        · omega
        · have h1 : ¬ (R : Int) ≤ 120 := by omega
          go_wp2_with fail
          go_ret
          exact ⟨_, rfl, fun h => by simp at h, _, rfl⟩
    · have hi1 : ¬ (j : Int) < (R : Int) := by omega
      by_cases h120 : R ≤ 120
      · have h1 : (R : Int) ≤ 120 := by omega
        go_wp2_with fail
        go_ret
        exact ⟨_, rfl, fun h => h120, _, rfl⟩
      · have h1 : ¬ (R : Int) ≤ 120 := by omega
        go_wp2_with fail
        go_ret
        exact ⟨_, rfl, fun h => by simp at h, _, rfl⟩
end Go.Proofs.Ytfeghobfkgimfaa
