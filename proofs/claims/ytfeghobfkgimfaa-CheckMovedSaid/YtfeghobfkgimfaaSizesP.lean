/- The three codes of CheckSizes. -/
import Derived.Test.YtfeghobfkgimfaaKnowsL
namespace Go.Proofs.Ytfeghobfkgimfaa
open Go.RowKit

theorem Try.info32 : (Try.prog.info? 32).map (fun i => (i.zero, i.size, i.bytes)) = some (some (.agg #[.int .i64 0, .int .i64 0, .int .i64 0, .slice none 0 0]), 4, 48) := by kernel_rfl
theorem Try.info101 : (Try.prog.info? 101).map (fun i => (i.zero, i.size, i.bytes)) = some (some (.agg #[.string { data := #[] }, .int .i64 0, .int .i64 0]), 3, 32) := by kernel_rfl

theorem run_make_rows (t e : TypeId) (z : Value) (sz bytes : Nat) (ht : Try.prog.underlying t = some (.slice e)) (hinfo : (Try.prog.info? e).map (fun i => (i.zero, i.size, i.bytes)) = some (some z, sz, bytes))
    (n : Nat) (hbytes : bytes * n ≤ 281474976710656) (h63 : n ≤ 9223372036854775807) (w : World) :
    (Instr.makeSlice t (.int .i64 (n : Int)) (.int .i64 (n : Int))).run Try.prog w = .ok (.slice (some ⟨w.heap.size, 0, none⟩) n n) (w.alloc (.cells (madeCells z.cells (n * sz)) e)) := by
  obtain ⟨i, hi, hzz⟩ := Option.map_eq_some_iff.1 hinfo
  simp only [Prod.mk.injEq] at hzz
  obtain ⟨hz, hs, hb⟩ := hzz
  subst hs hb
  have hb' : (i.bytes : Int) * (n : Int) ≤ 281474976710656 := by
    have h : ((i.bytes * n : Nat) : Int) ≤ 281474976710656 := by omega
    rwa [Int.natCast_mul] at h
  have hr := run_make (P := Try.prog) w t e i z ht hi hz .i64 .i64 n n (by omega) (Int.le_refl _) hb' (by omega)
  simp only [Int.toNat_natCast] at hr
  exact hr

theorem made_at (z : Array Value) (n j : Nat) (hj : j < n) : (madeCells z n)[j]? = some z[j % z.size]! := by simp [madeCells, hj]

def insZ : InsD := ⟨0, 0, 0, []⟩
def codeA (n : Nat) : CodeD := ⟨0, fun _ => 0, fun _ => 0, n, fun _ => insZ⟩
def codeB (n : Nat) : CodeD := ⟨n, fun _ => 0, fun _ => 0, 1, fun _ => ⟨9, 0, 0, []⟩⟩
def insG (n : Int) : Nat → InsD
  | 0 => ⟨7, n, 0, []⟩
  | _ => ⟨15, 0, 0, []⟩
def codeG (n : Int) : CodeD := ⟨1, fun _ => 0, fun _ => 0, 2, insG n⟩

theorem okA (n : Nat) : okB (codeA n) = decide (n ≤ 65536) := by
  by_cases h : n ≤ 65536
  · rw [decide_eq_true h]
    refine okB_true.2 ⟨h, by simp [codeA], fun i hi => by simp [codeA] at hi, fun _ => 0, ⟨fun c hc => by simp [entriesL, codeA] at hc, fun p _ h0 => absurd rfl h0⟩⟩
  · rw [decide_eq_false h]
    exact okB_false.2 (fun hk => h hk.1)
theorem okBB (n : Nat) : okB (codeB n) = decide (n ≤ 65536) := by
  by_cases h : n ≤ 65536
  · rw [decide_eq_true h]
    refine okB_true.2 ⟨by simp [codeB], h, fun i hi => by simp [codeB], fun p => if p = 0 then 1 else 0, ⟨fun c hc => ?_, fun p hp _ => ?_⟩⟩
    · obtain ⟨g, _, rfl⟩ := List.mem_map.1 hc
      simp [sat, codeB]
    · have : p < 1 := hp
      obtain rfl : p = 0 := by omega
      simp [mayP, codeB, right9, leaves9, reads9, behindL]
  · rw [decide_eq_false h]
    exact okB_false.2 (fun hk => h hk.2.1)
theorem right7 (n : Int) (h : 1 ≤ n ∧ n ≤ 65536) : rightF ⟨7, n, 0, []⟩ = true := rightF_true.2 (by simp [rightOk, formD]; omega)
theorem leaves7 (n : Int) (h : 1 ≤ n ∧ n ≤ 65536) : leavesF ⟨7, n, 0, []⟩ = n := by unfold leavesF; rw [if_pos (right7 n h)]; simp [formD]
theorem reads7 (n : Int) (h : 1 ≤ n ∧ n ≤ 65536) : readsF ⟨7, n, 0, []⟩ = 0 := by unfold readsF; rw [if_pos (right7 n h)]; simp [formD]
theorem okG (n : Nat) (h1 : 2 ≤ n) (h2 : n ≤ 65537) : okB (codeG ((n : Int) - 1)) = decide (n ≤ 65536) := by
  have hb : 1 ≤ (n : Int) - 1 ∧ (n : Int) - 1 ≤ 65536 := by omega
  by_cases h : n ≤ 65536
  · rw [decide_eq_true h]
    refine okB_true.2 ⟨by simp [codeG], by simp [codeG], fun i hi => by simp [codeG], fun p => if p = 0 then 1 else if p = 1 then (n : Int) else 0, ⟨fun c hc => ?_, fun p hp _ => ?_⟩⟩
    · obtain ⟨g, _, rfl⟩ := List.mem_map.1 hc
      simp [sat, codeG]
    · have : p < 2 := hp
      have : p = 0 ∨ p = 1 := by omega
      rcases this with rfl | rfl
      · simp [mayP, codeG, insG, right7 _ hb, leaves7 _ hb, reads7 _ hb, behindL, sat]; omega
      · simp [mayP, codeG, insG, right15, leaves15, reads15, behindL]; omega
  · rw [decide_eq_false h]
    refine okB_false.2 (fun hk => ?_)
    obtain ⟨_, _, _, D, hD⟩ := hk
    have h0 : D 0 = 1 := by
      have := (hD.ents ⟨0, 0 + 1, 0⟩ (by simp [entriesL, codeG])).2.2
      simpa using this
    have hm := (hD.nexts 0 (by simp [codeG]) (by omega)).1
    have h5 := hm.2.2.2.2
    simp [codeG, insG, leaves7 _ hb, h0] at h5
    omega
end Go.Proofs.Ytfeghobfkgimfaa
