/- lay and node at whatever node: one contract each; nodes as lists of cells. -/
import Derived.Test.YtfeghobfkgimfaaNodeC
import Derived.Test.YtfeghobfkgimfaaLay
import Derived.Test.YtfeghobfkgimfaaLayCon
namespace Go.Proofs.Ytfeghobfkgimfaa
open Go.RowKit

/-- A node as its cells. -/
def enc (k m : Int) (xs : List Int) : List Int := if k = 2 then 2 :: xs else if k = 4 then 4 :: m :: (xs.length : Int) :: xs else [k, m]

/-- What a node may be. -/
def okNode (k m : Int) (xs : List Int) : Prop := (k = 1 ∧ xs = []) ∨ (k = 3 ∧ 0 ≤ m ∧ xs = []) ∨ (k = 6 ∧ m = 0 ∧ xs = []) ∨ (k = 2 ∧ m = 0 ∧ xs.length = 2) ∨ (k = 4 ∧ 0 ≤ m ∧ m ≤ 255 ∧ xs.length ≤ 255)

theorem two_of {xs : List Int} (h : xs.length = 2) : ∃ x y, xs = [x, y] := by
  match xs, h with
  | [x, y], _ => exact ⟨x, y, rfl⟩

theorem cells_enc {k m : Int} {xs : List Int} (h : okNode k m xs) : cellsF k m xs.length = (enc k m xs).length := by
  rcases h with ⟨rfl, rfl⟩ | ⟨rfl, h, rfl⟩ | ⟨rfl, rfl, rfl⟩ | ⟨rfl, rfl, h⟩ | ⟨rfl, h1, h2, h3⟩
  · simp [cellsF, enc]
  · simp [cellsF, enc, h]
  · simp [cellsF, enc]
  · simp [cellsF, enc, h]
  · rw [cellsF_con, if_pos (by omega)]; simp [enc]; omega
theorem enc_pos {k m : Int} {xs : List Int} (h : okNode k m xs) : 2 ≤ (enc k m xs).length ∧ (enc k m xs).length ≤ 258 := by
  rcases h with ⟨rfl, rfl⟩ | ⟨rfl, h, rfl⟩ | ⟨rfl, rfl, rfl⟩ | ⟨rfl, rfl, h⟩ | ⟨rfl, h1, h2, h3⟩ <;> simp [enc] <;> omega

/-- A slice of ints, its cells in blocks that are no block of the heap's. -/
def IntSl (S : Nat → Prop) (w : World) (A : Option Addr) (cap : Nat) (xs : List Int) : Prop :=
  xs.length ≤ cap ∧ (0 < xs.length → ∃ g o, A = some ⟨g, o, none⟩ ∧ g < w.heap.size ∧ ¬ S g ∧ ∀ j (h : j < xs.length), w.cell? ⟨g, o + j, none⟩ = some (.int .i64 xs[j]))

theorem lay_any (w0 : World) (b ro cb gb off n N u c : Nat) (top : Nat → Value) (C : Nat → Int) (G : Nat → Bool) (k m : Int) (A : Option Addr) (cap : Nat) (xs : List Int) (w : World)
    (hro : ro ≤ 4) (hN : off + n ≤ N) (hNb : N ≤ 2097152) (hu : u + (enc k m xs).length ≤ n) (hc : c ≤ 2097152) (hok : okNode k m xs) (hA : IntSl (In3 b cb gb) w A cap xs)
    (hr : HRows w0 w b cb gb N top C G) (t0 : top ro = .slice (some ⟨cb, off, none⟩) n n) (t1 : top (ro + 1) = .slice (some ⟨gb, off, none⟩) n n) (t2 : top (ro + 2) = .int .i64 u) (t3 : top (ro + 3) = .int .i64 c) :
    Calls Try.prog 54 #[.pointer (some ⟨b, ro, none⟩), .agg #[.int .i64 k, .int .i64 m, .slice A xs.length cap]] w fun e w' => e = .returned (.int .i64 u) ∧
      HRows w0 w' b cb gb N (upd (upd top (ro + 2) (.int .i64 ((u + (enc k m xs).length : Nat) : Int))) (ro + 3) (.int .i64 ((c + 1 : Nat) : Int))) (wr C (off + u) (enc k m xs)) (upd G (off + u) true) := by
  have hce := cells_enc hok
  rcases hok with ⟨rfl, rfl⟩ | ⟨rfl, h, rfl⟩ | ⟨rfl, rfl, rfl⟩ | ⟨rfl, rfl, h⟩ | ⟨rfl, h1, h2, h3⟩
  · exact lay_plain w0 b ro cb gb off n N u c top C G _ m A 0 cap w hro hN hNb hu hc (by decide) (by decide) hr t0 t1 t2 t3 (by omega) hce
  · exact lay_plain w0 b ro cb gb off n N u c top C G _ m A 0 cap w hro hN hNb hu hc (by decide) (by decide) hr t0 t1 t2 t3 (by omega) hce
  · exact lay_plain w0 b ro cb gb off n N u c top C G _ 0 A 0 cap w hro hN hNb hu hc (by decide) (by decide) hr t0 t1 t2 t3 (by omega) hce
  · obtain ⟨x, y, rfl⟩ := two_of h
    · obtain ⟨g, o, rfl, hg, hs, hcell⟩ := hA.2 (by simp)
      exact lay_call w0 b ro cb gb off n N u c top C G 0 g o cap x y w hro hN hNb hu hc rfl (fun e => hs (.inl e)) (fun e => hs (.inr (.inl e))) (fun e => hs (.inr (.inr e))) hg (hcell 0 (by simp)) (hcell 1 (by simp)) hr t0 t1 t2 t3
  · have hlen : (enc 4 m xs).length = 3 + xs.length := by simp [enc]; omega
    rw [hlen] at hu ⊢
    exact lay_con w0 b ro cb gb off n N u c top C G m A cap xs w hro hN hNb hu hc h1 h2 h3 hA.1 (fun h0 => by
      obtain ⟨g, o, rfl, hg, hs, hcell⟩ := hA.2 h0
      exact ⟨g, o, rfl, hg, fun e => hs (.inl e), fun e => hs (.inr (.inl e)), fun e => hs (.inr (.inr e)), hcell⟩) hr t0 t1 t2 t3

/-- The cells at a place are a node's. -/
def NodeAt (C : Nat → Int) (p : Nat) (k m : Int) (xs : List Int) : Prop := okNode k m xs ∧ ∀ i (h : i < (enc k m xs).length), C (p + i) = (enc k m xs)[i]

def NodeV (k m : Int) (xs : List Int) (w : World) (e : Ending) (w' : World) : Prop :=
  ∃ A cap, e = .returned (.agg #[.int .i64 k, .int .i64 m, .slice A xs.length cap]) ∧ IntSl (fun g => g < w.heap.size) w' A cap xs ∧ Below w.heap.size w w'

theorem ints_own {w : World} {base : Nat} {v : Value} {n : Nat} {xs : List Int} (hn : n = xs.length) (h : w.ownsRow base 3 1 v n (xs.map (Value.int .i64))) : ∃ A cap, v = .slice A xs.length cap ∧ IntSl (fun g => g < base) w A cap xs := by
  subst hn
  have h0 := h
  rcases h.2 with ⟨rfl, h1⟩ | ⟨g, cap, cur, rfl, hg, hh, hcap, _⟩
  · exact ⟨none, 0, by rw [h1], ⟨by omega, fun h2 => absurd h2 (by omega)⟩⟩
  · refine ⟨_, _, rfl, ⟨hcap, fun _ => ⟨g, 0, rfl, (Array.getElem?_eq_some_iff.1 hh).1, by omega, fun j hj => ?_⟩⟩⟩
    have := h0.cells (g := g) rfl j (.int .i64 xs[j]) (by rw [List.getElem?_map, List.getElem?_eq_getElem hj]; rfl)
    have hadd : (⟨g, 0, none⟩ : Addr).add j = ⟨g, 0 + j, none⟩ := by unfold Addr.add; split <;> simp_all
    rw [hadd] at this
    exact this

theorem NodeV.of_post {k m : Int} {n : Nat} {xs : List Int} {w : World} {e : Ending} {w' : World} (hn : n = xs.length) (h : NodePost k m n xs w e w') : NodeV k m xs w e w' := by
  obtain ⟨v', rfl, hown, hb⟩ := h
  obtain ⟨A, cap, rfl, hi⟩ := ints_own hn hown
  exact ⟨A, cap, rfl, hi, hb⟩

theorem node_any (b ro cb off n p : Nat) (k m : Int) (xs : List Int) (C : Nat → Int) (w : World) (hn : n ≤ 1048576) (hp : p + (enc k m xs).length ≤ n) (lb : b < w.heap.size) (lc : cb < w.heap.size)
    (c0 : w.cell? ⟨b, ro, none⟩ = some (.slice (some ⟨cb, off, none⟩) n n)) (hc : ∀ i, i < n → w.cell? ⟨cb, off + i, none⟩ = some (.int .i64 (C (off + i)))) (hN : NodeAt C (off + p) k m xs) :
    Calls Try.prog 61 #[.pointer (some ⟨b, ro, none⟩), .int .i64 p] w (NodeV k m xs w) := by
  obtain ⟨hok, hx⟩ := hN
  have hcell : ∀ i (h : i < (enc k m xs).length), w.cell? ⟨cb, off + p + i, none⟩ = some (.int .i64 ((enc k m xs)[i])) := fun i h => by
    rw [← hx i h, Nat.add_assoc, hc (p + i) (by omega)]
  have plainV : ∀ {e : Ending} {w' : World}, e = .returned (.agg #[.int .i64 k, .int .i64 m, .slice none 0 0]) → xs = [] → Below w.heap.size w w' → NodeV k m xs w e w' := by
    rintro e w' rfl rfl hb
    exact ⟨none, 0, rfl, ⟨by simp, fun h => by simp at h⟩, hb⟩
  rcases hok with ⟨rfl, rfl⟩ | ⟨rfl, h, rfl⟩ | ⟨rfl, rfl, rfl⟩ | ⟨rfl, rfl, h⟩ | ⟨rfl, h1, h2, h3⟩
  · exact (node_num b ro cb off n p m w hn hp lb lc c0 (hcell 0 (by simp [enc])) (hcell 1 (by simp [enc]))).mono fun e w' ⟨h1, h2⟩ => plainV h1 rfl h2
  · exact (node_global b ro cb off n p m w hn hp lb lc c0 (hcell 0 (by simp [enc])) (hcell 1 (by simp [enc]))).mono fun e w' ⟨h1, h2⟩ => plainV h1 rfl h2
  · exact (node_other b ro cb off n p 6 0 w hn hp (by decide) (by decide) (by decide) (by decide) (by decide) lb lc c0 (hcell 0 (by simp [enc])) (hcell 1 (by simp [enc]))).mono fun e w' ⟨h1, h2⟩ => plainV h1 rfl h2
  · obtain ⟨x, y, rfl⟩ := two_of h
    exact (node_call b ro cb off n p x y w hn hp lb lc c0 (hcell 0 (by simp [enc])) (hcell 1 (by simp [enc])) (hcell 2 (by simp [enc]))).mono fun e w' hh => NodeV.of_post rfl hh
  · have hlen : (enc 4 m xs).length = 3 + xs.length := by simp [enc]; omega
    rw [hlen] at hp
    exact (node_con b ro cb off n p xs.length m xs w hn hp rfl lb lc c0 (hcell 0 (by simp [enc])) (hcell 1 (by simp [enc])) (hcell 2 (by simp [enc])) (fun j hj => by
      have := hcell (3 + j) (by omega)
      rw [show off + p + (3 + j) = off + p + 3 + j from by omega] at this
      rw [this]; simp [enc, show 3 + j = j + 1 + 1 + 1 from by omega])).mono fun e w' hh => NodeV.of_post rfl hh

/-- The nine cells of a heap's struct. -/
def topV (cb gb n o1 u1 c1 o2 u2 c2 : Nat) : Nat → Value
  | 0 => .slice (some ⟨cb, o1, none⟩) n n
  | 1 => .slice (some ⟨gb, o1, none⟩) n n
  | 2 => .int .i64 u1
  | 3 => .int .i64 c1
  | 4 => .slice (some ⟨cb, o2, none⟩) n n
  | 5 => .slice (some ⟨gb, o2, none⟩) n n
  | 6 => .int .i64 u2
  | 7 => .int .i64 c2
  | _ => .int .i64 n

theorem topV_main {cb gb n o1 u1 c1 o2 u2 c2 u c : Nat} (i : Nat) : upd (upd (topV cb gb n o1 u1 c1 o2 u2 c2) 2 (.int .i64 (u : Int))) 3 (.int .i64 (c : Int)) i = topV cb gb n o1 u c o2 u2 c2 i := by
  unfold upd
  match i with
  | 0 | 1 | 2 | 3 | 4 | 5 | 6 | 7 => rfl
  | j + 8 => rw [if_neg (by omega), if_neg (by omega)]; rfl
theorem topV_other {cb gb n o1 u1 c1 o2 u2 c2 u c : Nat} (i : Nat) : upd (upd (topV cb gb n o1 u1 c1 o2 u2 c2) 6 (.int .i64 (u : Int))) 7 (.int .i64 (c : Int)) i = topV cb gb n o1 u1 c1 o2 u c i := by
  unfold upd
  match i with
  | 0 | 1 | 2 | 3 | 4 | 5 | 6 | 7 => rfl
  | j + 8 => rw [if_neg (by omega), if_neg (by omega)]; rfl
end Go.Proofs.Ytfeghobfkgimfaa
