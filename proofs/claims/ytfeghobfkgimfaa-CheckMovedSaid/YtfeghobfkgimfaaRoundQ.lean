/- A region that draws its order and only reads, in a round of a range over a function: one walk of the text's order serves. -/
import Derived.Test.YtfeghobfkgimfaaKit
import Derived.RangeFuncNested
import Derived.Sort.QuietIn
import Derived.Sort.QuietTacIn
import Derived.StillTail
import Derived.OrdersHeld
import Derived.StillTailTactics
namespace Go.Proofs.Ytfeghobfkgimfaa
open Go.RowKit

section
variable {n : Nat} {P : Program} {ops : Array Oper} {md : Region.Mode} {Q : Exit → Act → World → Prop}

theorem op_round (l : Nat) {o : Oper} (hd : ∀ c : Call, o.op ≠ .defer c) {a : Act} {w : World} {K K' : Act → World → Prop} (hK : ∀ a w, K a w → K' a w) (h : o.wpIn Fence.wide n P a w K Q) : o.wpIn (Fence.wide.inRound l) n P a w K' Q := by
  have h2 := Oper.wpIn_mono hK h
  refine ⟨h2.1, ?_⟩
  have h3 := h2.2
  have e1 : o.semAt (Fence.wide.inRound l).round a.eval = execOp a.eval o := Oper.semAt_some l _ o hd
  have e2 : o.semAt Fence.wide.round a.eval = execOp a.eval o := Oper.semAt_none _ _
  rw [e1]
  rw [e2] at h3
  exact h3

theorem any_round (l : Nat) (hd : ∀ (i : Nat) (o : Oper), ops[i]? = some o → ∀ c : Call, o.op ≠ .defer c) : ∀ (fuel : Nat) (listed : Array Bool) (a : Act) (w : World), wpAnyIn Fence.wide n P md ops Q fuel listed a w → wpAnyIn (Fence.wide.inRound l) n P md ops Q fuel listed a w := by
  intro fuel
  induction fuel with
  | zero => intro listed a w h; exact h
  | succ fuel ih =>
    intro listed a w h
    refine ⟨h.1, fun i hi => ?_⟩
    have h2 := h.2 i hi
    unfold wpOpIn at h2 ⊢
    cases ho : ops[i]? with
    | none => rw [ho] at h2; exact ih _ _ _ h2
    | some o =>
      rw [ho] at h2
      simp only at h2 ⊢
      split
      · rename_i hw; rw [if_pos hw] at h2
        exact op_round l (hd i o ho) (fun a w h => ih _ a w h) h2
      · rename_i hw; rw [if_neg hw] at h2
        exact ⟨h2.1, ih _ _ _ h2.2⟩

/-- No operation is a defer statement. -/
def noDeferB : List Oper → Bool
  | [] => true
  | o :: ls => (match o.op with | .defer _ => false | _ => true) && noDeferB ls
theorem noDefer_get : ∀ (ls : List Oper), noDeferB ls = true → ∀ (i : Nat) (o : Oper), ls.toArray[i]? = some o → ∀ c : Call, o.op ≠ .defer c := by
  intro ls
  induction ls with
  | nil => intro _ i o h; simp at h
  | cons x ls ih =>
    intro h i o ho c
    simp only [noDeferB, Bool.and_eq_true] at h
    cases i with
    | zero =>
      simp at ho; subst ho
      intro e; rw [e] at h; simp at h
    | succ i => exact ih h.2 i o (by simpa using ho) c

theorem quiet_round (l : Nat) {id : Nat} {a : Act} {w : World} {ls : List Oper} (hd : noDeferB ls = true) (hm : P.follows .mixedOrders = true) (hB : Region.lexB .any ls.toArray = true)
    (h : wpQuietIn Fence.wide n P ls.toArray (fun w' => ∃ n, w' = w.drewN n) (fun a' => ∀ w', (∃ n, w' = w.drewN n) → Q .normal a' w') ls a) : (Code.region id ls.toArray true).wpIn (Fence.wide.inRound l) n P Q a w := by
  simp only [Region.lexB, Bool.and_eq_true] at hB
  refine wpIn_region_any hm (any_round l (noDefer_get ls hd) _ _ _ _ (wpAnyIn_of_quiet (C := fun w' => ∃ n, w' = w.drewN n) (Q := fun a' => ∀ w', (∃ n, w' = w.drewN n) → Q .normal a' w') rfl (fun _ w' hw' h => h w' hw') _ _ _ _ ⟨1, rfl⟩ ?_))
  have := wpAnyQIn_lex (F := Fence.wide) (n := n) (C := fun w' => ∃ n, w' = w.drewN n) (md := .any) (Q := fun a' => ∀ w', (∃ n, w' = w.drewN n) → Q .normal a' w') hB.1 ls 0 (Array.replicate ls.toArray.size false) a (by simp) (by simpa using hB.2) h
  simpa using this
/-- What holds of every order outside a fence holds of every order inside the wide one, where no function is called. -/
theorem op_wide {o : Oper} {a : Act} {w : World} {K K' : Act → World → Prop} (hK : ∀ a w, K a w → K' a w) (h : o.wp P a w K Q) : o.wpIn Fence.wide n P a w K' Q := by
  refine ⟨fun _ _ => trivial, ?_⟩
  have e2 : o.semAt Fence.wide.round a.eval = execOp a.eval o := Oper.semAt_none _ _
  rw [e2]
  unfold Oper.wp at h
  generalize (execOp a.eval o).run P w = r at h ⊢
  cases r with
  | ok x w' =>
    cases x with
    | value v => exact hK _ _ h
    | skip => exact hK _ _ h
    | defer d => exact hK _ _ h
    | enter f args =>
      refine ⟨fun e => by simp [Fence.wide] at e, ?_⟩
      have h' : Calls P f args w' _ := h
      refine (callsIn_wide.2 h').mono ?_
      intro e w'' he
      cases e with
      | returned v => exact hK _ _ he
      | panicked c => exact he
      | outgrown => exact he
    | row row args =>
      refine ⟨fun e => by simp [Fence.wide] at e, ?_⟩
      have h' : Rows P row args w' _ := h
      intro c cs _
      obtain ⟨v, w'', hv, hs⟩ := h' c cs
      exact ⟨v, w'', hK _ _ hv, stepsIn_wide.2 hs⟩
    | _ => exact False.elim h
  | halt x w' => cases x <;> exact h

theorem any_wide (hout : ¬ LetsOut Q) : ∀ (fuel : Nat) (listed : Array Bool) (a : Act) (w : World), wpAny P md ops Q fuel listed a w → wpAnyIn Fence.wide n P md ops Q fuel listed a w := by
  intro fuel
  induction fuel with
  | zero => intro listed a w h; exact h
  | succ fuel ih =>
    intro listed a w h
    refine ⟨h.1, fun i hi => ?_⟩
    have h2 := h.2 i hi
    unfold wpOp at h2
    unfold wpOpIn
    cases ho : ops[i]? with
    | none => rw [ho] at h2; exact ih _ _ _ h2
    | some o =>
      rw [ho] at h2
      simp only at h2 ⊢
      split
      · rename_i hw; rw [if_pos hw] at h2
        rcases h2 with h2 | h2
        · exact op_wide (fun a w h => ih _ a w h) h2
        · exact absurd h2.2 hout
      · rename_i hw; rw [if_neg hw] at h2
        exact ⟨fun _ _ => trivial, ih _ _ _ h2⟩

/-- A region in a round whose first N operations only read, the others in the text's order behind them. -/
theorem tail_round (l : Nat) {id : Nat} {a : Act} {w : World} {ls : List Oper} (N : Nat) (hd : noDeferB ls = true) (hm : P.follows .mixedOrders = true) (hB : Region.lexTailB .any ls.toArray N = true) (hout : ¬ LetsOut Q)
    (h : wpStill P ls.toArray { w with drawn := w.drawn + 1 } (fun a' => wpList P ls.toArray Q (ls.drop N) a' { w with drawn := w.drawn + 1 }) (ls.take N) a) : (Code.region id ls.toArray true).wpIn (Fence.wide.inRound l) n P Q a w := by
  refine wpIn_region_any hm (any_round l (noDefer_get ls hd) _ _ _ _ (any_wide hout _ _ _ _ ?_))
  simp only [Region.lexTailB, Bool.and_eq_true, decide_eq_true_eq] at hB
  obtain ⟨⟨⟨⟨hsel, hn⟩, hs⟩, hc⟩, hlex⟩ := hB
  have hn' : N < ls.length := by simpa using hn
  have htl : (ls.take N).length = N := by rw [List.length_take]; omega
  have hsz : ls.toArray.size = N + (ls.drop N).length := by simp; omega
  have hinv : HeadInv .any ls.toArray N (Array.replicate ls.toArray.size false) :=
    ⟨by simp, fun j oj _ hl => (by rw [getD_replicate_false] at hl; cases hl), fun t _ ht => getD_in (by simpa using ht) (getD_replicate_false _ _)⟩
  have hfirst := wpAnyL_lex (md := .any) (g := (ls.drop N).length) hsel hs hc hn (ls.take N) 0 (Array.replicate ls.toArray.size false) a
    (fun j hj => by rw [htl] at hj; simp [hj]) (by simpa using htl) hinv (by rw [htl]; simpa [List.length_drop] using hlex) h
  have hall := wpAny_of_head (Q' := Q) (g := (ls.drop N).length) (fun listed a' hL => wpAny_of_seq (md := .any) (Q' := Q) (ls.drop N) N listed a' _ (fun j => by simp [List.getElem?_drop]) hL.1 hL.2) _ _ _ hfirst
  rw [htl, ← hsz] at hall
  exact hall
theorem held_round (l : Nat) {id : Nat} {a : Act} {w : World} {ls : List Oper} (S : World → Prop) (hd : noDeferB ls = true) (hm : P.follows .mixedOrders = true) (hout : ¬ LetsOut Q)
    (h : wpAnyH P .any ls.toArray Q S ls.toArray.size (Array.replicate ls.toArray.size false) a { w with drawn := w.drawn + 1 }) : (Code.region id ls.toArray true).wpIn (Fence.wide.inRound l) n P Q a w :=
  wpIn_region_any hm (any_round l (noDefer_get ls hd) _ _ _ _ (any_wide hout _ _ _ _ (wpAny_of_held _ _ _ _ h)))
end
end Go.Proofs.Ytfeghobfkgimfaa
