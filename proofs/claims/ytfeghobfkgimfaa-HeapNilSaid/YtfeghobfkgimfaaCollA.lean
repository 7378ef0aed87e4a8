/- args at whatever node; small lemmas for Collect. -/
import Derived.Test.YtfeghobfkgimfaaFwd
import Derived.Test.YtfeghobfkgimfaaPut
namespace Go.Proofs.Ytfeghobfkgimfaa
open Go.RowKit

def ArgsV (cb p X : Nat) (w : World) (e : Ending) (w' : World) : Prop :=
  ∃ A, e = .returned (.slice A X X) ∧ (0 < X → A = some ⟨cb, p, none⟩) ∧ ∃ q, w' = w.drewN q

theorem args_any (b ro cb off n p : Nat) (k m : Int) (xs : List Int) (C : Nat → Int) (w : World) (hn : n ≤ 1048576) (hp : p + (enc k m xs).length ≤ n)
    (c0 : w.cell? ⟨b, ro, none⟩ = some (.slice (some ⟨cb, off, none⟩) n n)) (hc : ∀ i, i < n → w.cell? ⟨cb, off + i, none⟩ = some (.int .i64 (C (off + i)))) (hN : NodeAt C (off + p) k m xs) :
    Calls Try.prog 58 #[.pointer (some ⟨b, ro, none⟩), .int .i64 p] w (ArgsV cb (off + p + argOff k) xs.length w) := by
  obtain ⟨hok, hx⟩ := hN
  have hpos := enc_pos hok
  have hcell : ∀ i (h : i < (enc k m xs).length), w.cell? ⟨cb, off + p + i, none⟩ = some (.int .i64 ((enc k m xs)[i])) := fun i h => by
    rw [← hx i h, Nat.add_assoc, hc (p + i) (by omega)]
  rcases hok with ⟨rfl, rfl⟩ | ⟨rfl, h, rfl⟩ | ⟨rfl, rfl, rfl⟩ | ⟨rfl, rfl, h⟩ | ⟨rfl, h1, h2, h3⟩
  · exact (args_plain b ro cb off n p 1 w hn (by omega) (by decide) (by decide) (by decide) c0 (hcell 0 (by simp [enc]))).mono fun e w' ⟨h1, h2⟩ => ⟨none, h1, fun h => by simp at h, 0, h2.symm⟩
  · exact (args_plain b ro cb off n p 3 w hn (by omega) (by decide) (by decide) (by decide) c0 (hcell 0 (by simp [enc]))).mono fun e w' ⟨h1, h2⟩ => ⟨none, h1, fun h => by simp at h, 0, h2.symm⟩
  · exact (args_plain b ro cb off n p 6 w hn (by omega) (by decide) (by decide) (by decide) c0 (hcell 0 (by simp [enc]))).mono fun e w' ⟨h1, h2⟩ => ⟨none, h1, fun h => by simp at h, 0, h2.symm⟩
  · obtain ⟨x, y, rfl⟩ := two_of h
    exact (args_call b ro cb off n p w hn hp c0 (hcell 0 (by simp [enc]))).mono fun e w' ⟨h1, h2⟩ => ⟨_, h1, fun _ => rfl, 0, h2.symm⟩
  · have hlen : (enc 4 m xs).length = 3 + xs.length := by simp [enc]; omega
    rw [hlen] at hp
    exact (args_con b ro cb off n p xs.length w hn hp c0 (hcell 0 (by simp [enc])) (hcell 2 (by simp [enc]))).mono fun e w' ⟨⟨o, h1, h2⟩, q, h3⟩ => ⟨_, h1, fun h0 => by rw [h2 h0]; rfl, q, h3⟩

theorem turns_of_grown {w w' : World} {row : Option Nat} (h : w.grownBy w' row) : Turns (fun x => some x = row) w w' := ⟨h.os, h.tape, h.output, h.size, fun k hk hs => h.block k hk hs⟩

theorem cell_one (w : World) (v : Value) (t : TypeId) : ∀ j u, [v][j]? = some u → (w.alloc (.cells #[v] t)).cell? ((⟨w.heap.size, 0, none⟩ : Addr).add j) = some u := cell_one_new w v t

section
variable {w0 w w' : World} {b cb gb N : Nat} {top : Nat → Value} {C : Nat → Int} {G : Nat → Bool}
/-- Behind an append onto a slice of the call's own. -/
theorem HRows.grown (h : HRows w0 w b cb gb N top C G) {row : Option Nat} (k : w.grownBy w' row) (hr : ∀ x, row = some x → w0.heap.size ≤ x) (h1 : b < w0.heap.size) (h2 : cb < w0.heap.size) (h3 : gb < w0.heap.size) : HRows w0 w' b cb gb N top C G :=
  h.turns (turns_of_grown k) (fun x e => by have := hr x e.symm; exact ⟨by rintro (e | e | e) <;> omega, this⟩)
end

/-- The last arg of a node is not yet the room's end: bounds. -/
theorem take_succ_map {α β : Type} (f : α → β) (l : List α) (k : Nat) (h : k < l.length) : (l.take (k + 1)).map f = (l.take k).map f ++ [f l[k]] := by
  rw [List.take_succ_eq_append_getElem h, List.map_append]; rfl
end Go.Proofs.Ytfeghobfkgimfaa
