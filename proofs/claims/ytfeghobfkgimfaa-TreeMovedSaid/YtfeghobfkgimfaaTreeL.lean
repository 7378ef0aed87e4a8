/- Whole structs loaded and stored: their cells as one list, none of them looked at. -/
import Derived.Test.YtfeghobfkgimfaaTreeM
import Derived.Deep.MidRow
namespace Go.Proofs.Ytfeghobfkgimfaa
set_option linter.unusedSimpArgs false
set_option linter.unusedVariables false
open Go.RowKit Go.Shelf

theorem setRow_alloc (w : World) (old cells : Array Value) (t : TypeId) : (w.alloc (.cells old t)).setRow w.heap.size cells = w.alloc (.cells cells t) := by
  have h2 : ((w.alloc (.cells old t)).setRow w.heap.size cells).heap = (w.alloc (.cells cells t)).heap := by
    have e1 : (w.alloc (.cells cells t)).heap = w.heap.push (.cells cells t) := rfl
    have e0 : (w.alloc (.cells old t)).heap = w.heap.push (.cells old t) := rfl
    rw [e1]
    unfold World.setRow
    simp only [e0]
    apply Array.ext
    · simp
    · intro i h1 h2
      rw [Array.getElem_modify]
      by_cases e : w.heap.size = i
      · subst e; simp
      · rw [if_neg e]
        have hi : i < w.heap.size := by simp at h1; omega
        rw [Array.getElem_push_lt hi, Array.getElem_push_lt hi]
  have h4 : (w.alloc (.cells old t)).setRow w.heap.size cells = { w.alloc (.cells old t) with heap := ((w.alloc (.cells old t)).setRow w.heap.size cells).heap } := rfl
  rw [h4, h2]
  rfl
/-- Guards: the next operation is this load, this store. -/
theorem at_ld (D : Tmp) {P : Program} {ops : Array Oper} {rest : List Oper} {a : Act} {w : World} {Q : Exit → Act → World → Prop} {t ty : TypeId} {x : Operand} {pos : String} {af : Array Edge} {g : Option (Nat × Bool)}
    (h : wpList P ops Q (⟨some D, .load t x, ty, pos, af, g⟩ :: rest) a w) : wpList P ops Q (⟨some D, .load t x, ty, pos, af, g⟩ :: rest) a w := h
theorem at_st (p v : Tmp) {P : Program} {ops : Array Oper} {rest : List Oper} {a : Act} {w : World} {Q : Exit → Act → World → Prop} {t ty : TypeId} {d : Option Tmp} {pos : String} {af : Array Edge} {g : Option (Nat × Bool)}
    (h : wpList P ops Q (⟨d, .store t (.tmp p) (.tmp v), ty, pos, af, g⟩ :: rest) a w) : wpList P ops Q (⟨d, .store t (.tmp p) (.tmp v), ty, pos, af, g⟩ :: rest) a w := h
/-- A struct is stored into a block just made. -/
theorem st_new {P : Program} (w : World) (n : Nat) (hn : w.heap.size = n) (t : TypeId) (old cells : Array Value) (hi : (P.info? t).map (·.size) = some cells.size) (ho : old.size = cells.size) (h1 : ∀ v ∈ cells, v.oneCell' = true) :
    (Instr.storeAt t (.pointer (some ⟨n, 0, none⟩)) (.agg cells)).run P (w.alloc (.cells old t)) = .ok () (w.alloc (.cells cells t)) := by
  subst hn
  simp only [Instr.storeAt, Instr.sureAddr, Sem.run_bind, Sem.run_pure, Result.andThen_ok, run_storeVar_row (P := P) (w.alloc (.cells old t)) w.heap.size t t old cells (heap_alloc_new w _) hi ho (Array.all_eq_true_iff_forall_mem.2 h1)]
  rw [setRow_alloc]
theorem wpList_store_new {P : Program} {ops : Array Oper} {rest : List Oper} {o : Oper} {a : Act} {w : World} {Q : Exit → Act → World → Prop} (hgd : o.guard = none) (t : TypeId) (x y : Operand) (ho : o.op = .store t x y)
    (n : Nat) (hn : w.heap.size = n) (hx : a.eval x = .pointer (some ⟨n, 0, none⟩)) (cells : Array Value) (hy : a.eval y = .agg cells) (old : Array Value) (hi : (P.info? t).map (·.size) = some cells.size) (hold : old.size = cells.size) (h1 : ∀ v ∈ cells, v.oneCell' = true)
    (h : wpList P ops Q rest (a.put o.dst undef) (w.alloc (.cells cells t))) : wpList P ops Q (o :: rest) a (w.alloc (.cells old t)) :=
  wpList_plain hgd fun _ hK => by
    unfold Oper.wp execOp
    simp only [ho, hx, hy, Sem.run_bind, st_new (P := P) w n hn t old cells hi hold h1, Result.andThen_ok, Sem.run_pure]
    exact hK _ _ h
end Go.Proofs.Ytfeghobfkgimfaa
