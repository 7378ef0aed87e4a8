/- The document's trees, copied: what is said of the copies. -/
import Derived.Test.YtfeghobfkgimfaaTreeA
namespace Go.Proofs.Ytfeghobfkgimfaa
set_option linter.unusedSimpArgs false
set_option linter.unusedVariables false
open Go.RowKit Go.Shelf

def OwnExV (w : World) (D : Ex) (e : Ending) (w' : World) : Prop := ∃ cs, e = .returned (.agg cs.toArray) ∧ Below w.heap.size w w' ∧ ExC (memX w' (w.heap.size ≤ ·)) D cs
def OwnDesV (w : World) (l : List De) (e : Ending) (w' : World) : Prop := ∃ v, e = .returned v ∧ Below w.heap.size w w' ∧ DesV (memX w' (w.heap.size ≤ ·)) l v
def GEx (l : List Ex) (m : Mem) (i : Nat) (cs : List Value) : Prop := ∃ hi : i < l.length, ExC m l[i] cs
theorem GEx.mono (l : List Ex) : ∀ m m' i cs, Mem.le m m' → GEx l m i cs → GEx l m' i cs := fun _ _ _ _ hm ⟨hi, h⟩ => ⟨hi, h.mono hm⟩
def GAl (l : List Al) (m : Mem) (i : Nat) (cs : List Value) : Prop := ∃ hi : i < l.length, AlC m l[i] cs
theorem GAl.mono (l : List Al) : ∀ m m' i cs, Mem.le m m' → GAl l m i cs → GAl l m' i cs := fun _ _ _ _ hm ⟨hi, h⟩ => ⟨hi, h.mono hm⟩
def GDe (l : List De) (m : Mem) (i : Nat) (cs : List Value) : Prop := ∃ hi : i < l.length, DeC m l[i] cs
theorem GDe.mono (l : List De) : ∀ m m' i cs, Mem.le m m' → GDe l m i cs → GDe l m' i cs := fun _ _ _ _ hm ⟨hi, h⟩ => ⟨hi, h.mono hm⟩
theorem RowX.exs {w : World} {X Y : Nat → Prop} {base : Nat} {e : TypeId} {v : Value} {C : Nat → List Value} {l : List Ex} (h : RowX w X base e 8 v l.length C (GEx l)) (hY : ∀ g, X g → Y g) (hYb : ∀ g, base ≤ g → v.ownBlock = some g → Y g) : ExsV (memX w Y) l v := by
  obtain ⟨A, c, hv, hc, hs, hg⟩ := h.slice (GEx.mono l) hY hYb
  exact ⟨A, c, C, hv, hc, hs, fun i hi => (hg i hi).2⟩
theorem RowX.als {w : World} {X Y : Nat → Prop} {base : Nat} {e : TypeId} {v : Value} {C : Nat → List Value} {l : List Al} (h : RowX w X base e 13 v l.length C (GAl l)) (hY : ∀ g, X g → Y g) (hYb : ∀ g, base ≤ g → v.ownBlock = some g → Y g) : AlsV (memX w Y) l v := by
  obtain ⟨A, c, hv, hc, hs, hg⟩ := h.slice (GAl.mono l) hY hYb
  exact ⟨A, c, C, hv, hc, hs, fun i hi => (hg i hi).2⟩
theorem RowX.des {w : World} {X Y : Nat → Prop} {base : Nat} {e : TypeId} {v : Value} {C : Nat → List Value} {l : List De} (h : RowX w X base e 18 v l.length C (GDe l)) (hY : ∀ g, X g → Y g) (hYb : ∀ g, base ≤ g → v.ownBlock = some g → Y g) : DesV (memX w Y) l v := by
  obtain ⟨A, c, hv, hc, hs, hg⟩ := h.slice (GDe.mono l) hY hYb
  exact ⟨A, c, C, hv, hc, hs, fun i hi => (hg i hi).2⟩
end Go.Proofs.Ytfeghobfkgimfaa
