/- The document's trees, copied: the ring closed. -/
import Derived.Test.YtfeghobfkgimfaaTreeD
namespace Go.Proofs.Ytfeghobfkgimfaa
set_option linter.unusedSimpArgs false
set_option linter.unusedVariables false
open Go.RowKit Go.Shelf

theorem own_ring (n : Nat) : (∀ (D : Ex), SizeOf.sizeOf D < n → cntEx D ≤ 100000 → ∀ cs W, ExC (mem W) D cs → Calls Try.prog 35 #[.agg cs.toArray] W (OwnExV W D)) ∧
    (∀ (l : List De), SizeOf.sizeOf l < n → cntDes l ≤ 100000 → ∀ v W, DesV (mem W) l v → Calls Try.prog 69 #[v] W (OwnDesV W l)) := by
  induction n with
  | zero => exact ⟨fun D h => by omega, fun l h => by omega⟩
  | succ n ih =>
    obtain ⟨i1, i2⟩ := ih
    refine ⟨fun D h hc cs W hD => ?_, fun l h hc v W hv => ?_⟩
    · exact ownEx_of D cs W hc hD (fun D' h' hc' => i1 D' (by omega) hc') (fun l h' hc' => i2 l (by omega) hc')
    · exact ownDes_of l v W hc hv (fun D' h' hc' => i1 D' (by omega) hc')
theorem ownEx_any (D : Ex) (cs : List Value) (w : World) (hc : cntEx D ≤ 100000) (hD : ExC (mem w) D cs) : Calls Try.prog 35 #[.agg cs.toArray] w (OwnExV w D) := (own_ring _).1 D (Nat.lt_succ_self _) hc cs w hD
theorem ownDes_any (l : List De) (v : Value) (w : World) (hc : cntDes l ≤ 100000) (hv : DesV (mem w) l v) : Calls Try.prog 69 #[v] w (OwnDesV w l) := (own_ring _).2 l (Nat.lt_succ_self _) hc v w hv
end Go.Proofs.Ytfeghobfkgimfaa
