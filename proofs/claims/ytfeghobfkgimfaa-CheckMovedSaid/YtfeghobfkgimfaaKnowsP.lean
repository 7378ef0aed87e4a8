/- The code that the law knows: its depths. No program here. -/
import Derived.Test.YtfeghobfkgimfaaCkPure
namespace Go.Proofs.Ytfeghobfkgimfaa

def insK : Nat → InsD
  | 0 => ⟨0, 7, 0, []⟩
  | 1 => ⟨4, 0, 0, []⟩
  | 2 => ⟨5, 0, 0, []⟩
  | _ => ⟨9, 0, 0, []⟩
def codeK : CodeD := ⟨1, fun _ => 0, fun _ => 0, 4, insK⟩
def depK : Nat → Int
  | 0 => 1
  | 1 => 2
  | 2 => 1
  | 3 => 1
  | _ => 0
theorem right0 : rightF ⟨0, 7, 0, []⟩ = true := rightF_true.2 (by simp [rightOk, formD])
theorem right4 : rightF ⟨4, 0, 0, []⟩ = true := rightF_true.2 (by simp [rightOk, formD])
theorem right5 : rightF ⟨5, 0, 0, []⟩ = true := rightF_true.2 (by simp [rightOk, formD])
theorem right9 : rightF ⟨9, 0, 0, []⟩ = true := rightF_true.2 (by simp [rightOk, formD])
theorem right15 : rightF ⟨15, 0, 0, []⟩ = true := rightF_true.2 (by simp [rightOk, formD])
theorem leaves0 : leavesF ⟨0, 7, 0, []⟩ = 1 := by unfold leavesF; rw [if_pos right0]; simp [formD]
theorem leaves4 : leavesF ⟨4, 0, 0, []⟩ = -1 := by unfold leavesF; rw [if_pos right4]; simp [formD]
theorem leaves5 : leavesF ⟨5, 0, 0, []⟩ = 0 := by unfold leavesF; rw [if_pos right5]; simp [formD]
theorem leaves9 : leavesF ⟨9, 0, 0, []⟩ = 0 := by unfold leavesF; rw [if_pos right9]; simp [formD]
theorem leaves15 : leavesF ⟨15, 0, 0, []⟩ = 0 := by unfold leavesF; rw [if_pos right15]; simp [formD]
theorem reads0 : readsF ⟨0, 7, 0, []⟩ = 0 := by unfold readsF; rw [if_pos right0]; simp [formD]
theorem reads4 : readsF ⟨4, 0, 0, []⟩ = 2 := by unfold readsF; rw [if_pos right4]; simp [formD]
theorem reads5 : readsF ⟨5, 0, 0, []⟩ = 0 := by unfold readsF; rw [if_pos right5]; simp [formD]
theorem reads9 : readsF ⟨9, 0, 0, []⟩ = 1 := by unfold readsF; rw [if_pos right9]; simp [formD]
theorem reads15 : readsF ⟨15, 0, 0, []⟩ = 0 := by unfold readsF; rw [if_pos right15]; simp [formD]

theorem closedK : Closed codeK depK := by
  refine ⟨fun c hc => ?_, fun p hp h0 => ?_⟩
  · simp [entriesL, codeK] at hc
    subst hc
    simp [sat, codeK, depK]
  · have hp4 : p < 4 := hp
    have h4 : p = 0 ∨ p = 1 ∨ p = 2 ∨ p = 3 := by omega
    rcases h4 with rfl | rfl | rfl | rfl
    · simp [mayP, codeK, insK, depK, right0, leaves0, reads0, behindL, sat]
    · simp [mayP, codeK, insK, depK, right4, leaves4, reads4, behindL, sat]
    · simp [mayP, codeK, insK, depK, right5, leaves5, reads5, behindL, sat]
    · simp [mayP, codeK, insK, depK, right9, leaves9, reads9, behindL, sat]

theorem onlyK {E : Nat → Int} (h : Closed codeK E) : E 0 = 1 ∧ E 1 = 2 ∧ E 2 = 1 ∧ E 3 = 1 := by
  have h0 : E 0 = 1 := by
    have := (h.ents ⟨0, 0 + 1, 0⟩ (by simp [entriesL, codeK])).2.2
    simpa using this
  have h1 : E 1 = 2 := by
    have := ((h.nexts 0 (by decide) (by omega)).2 ⟨1, 2, 0⟩ (by simp [codeK, insK, leaves0, behindL, h0])).2.2
    simpa using this
  have h2 : E 2 = 1 := by
    have := ((h.nexts 1 (by decide) (by omega)).2 ⟨2, 1, 1⟩ (by simp [codeK, insK, leaves4, behindL, h1])).2.2
    simpa using this
  have h3 : E 3 = 1 := by
    have := ((h.nexts 2 (by decide) (by omega)).2 ⟨3, 1, 2⟩ (by simp [codeK, insK, leaves5, behindL, h2])).2.2
    simpa using this
  exact ⟨h0, h1, h2, h3⟩
end Go.Proofs.Ytfeghobfkgimfaa
