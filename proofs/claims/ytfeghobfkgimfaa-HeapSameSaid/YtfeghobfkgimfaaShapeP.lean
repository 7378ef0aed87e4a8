/- What shape knows in its loops: plain steps. -/
import Derived.Test.YtfeghobfkgimfaaMeet
import Derived.Test.YtfeghobfkgimfaaShape
namespace Go.Proofs.Ytfeghobfkgimfaa
open Go.RowKit

theorem nodup_len {l : List Nat} : ∀ {m : List Nat}, l.Nodup → (∀ x ∈ l, x ∈ m) → l.length ≤ m.length := by
  induction l with
  | nil => intro m _ _; simp
  | cons a l ih =>
    intro m h hs
    have ha := hs a (by simp)
    obtain ⟨h1, h2⟩ := List.nodup_cons.1 h
    have := ih (m := m.erase a) h2 (fun x hx => (List.mem_erase_of_ne (by rintro rfl; exact h1 hx)).2 (hs x (by simp [hx])))
    rw [List.length_erase_of_mem ha] at this
    have := List.length_pos_of_mem ha
    simp; omega
theorem meetAll_len_le (met ps : List Nat) : (meetAll met ps).2.length ≤ met.length + ps.length := by
  induction ps generalizing met with
  | nil => simp [meetAll]
  | cons p ps ih =>
    have h := ih (meetF met p).2
    have : (meetF met p).2.length ≤ met.length + 1 := by unfold meetF; split <;> simp
    simp only [meetAll, List.length_cons]; omega
theorem take_map_snoc (lk : Nat → Nat) (l : List Nat) (k p : Nat) (h : l[k]? = some p) : (l.take (k + 1)).map lk = (l.take k).map lk ++ [lk p] := by
  obtain ⟨hl, rfl⟩ := List.getElem?_eq_some_iff.1 h
  rw [List.take_succ_eq_append_getElem hl, List.map_append]; rfl
theorem ints_snoc (l : List Nat) (x : Nat) : ints (l ++ [x]) = ints l ++ [(x : Int)] := by simp [ints]

theorem IntSl.step {S S' : Nat → Prop} {w w' : World} {A : Option Addr} {cap : Nat} {xs : List Int} (h : IntSl S w A cap xs) (k : Turns S w w') (hs : ∀ g, S' g → S g ∨ w.heap.size ≤ g) : IntSl S' w' A cap xs :=
  ⟨h.1, fun h0 => by
    obtain ⟨g, o, ha, hg, hS, hx⟩ := h.2 h0
    refine ⟨g, o, ha, Nat.lt_of_lt_of_le hg k.size, fun e => ?_, fun j hj => (k.cell (p := ⟨g, o + j, none⟩) hg hS).trans (hx j hj)⟩
    rcases hs g e with e | e
    · exact hS e
    · omega⟩

theorem own_elt {w : World} {B : Nat} {A : Option Addr} {n c : Nat} {xs : List Int} (h : w.ownsRow B 3 1 (.slice A n c) n (xs.map (Value.int .i64))) {j : Nat} {z : Int} (hj : xs[j]? = some z) :
    ∃ g, A = some ⟨g, 0, none⟩ ∧ g < w.heap.size ∧ B ≤ g ∧ w.cell? ⟨g, j, none⟩ = some (.int .i64 z) := by
  have hlen : n = xs.length := by have := h.1; simpa using this.symm
  have hjl := (List.getElem?_eq_some_iff.1 hj).1
  obtain ⟨g, cap, hv, hb, hg⟩ := h.form (by omega)
  injection hv with hA _ _
  refine ⟨g, hA, hg, hb, ?_⟩
  have := h.cells (g := g) (by rw [hA]; rfl) j (.int .i64 z) (by rw [List.getElem?_map, hj]; rfl)
  have hadd : (⟨g, 0, none⟩ : Addr).add j = ⟨g, j, none⟩ := by unfold Addr.add; split <;> simp_all
  rwa [hadd] at this

/-- The first loop: the roots that have been met. -/
structure Sh1 (W wr : World) (lk : Nat → Nat) (rs : List Nat) (k : Nat) (vo vm : Value) : Prop where
  bl : Below W.heap.size W wr
  pr : Pair W.heap.size wr vo vm (ints (meetAll [] ((rs.take k).map lk)).1) (meetAll [] ((rs.take k).map lk)).2

theorem Sh1.start (W : World) (lk : Nat → Nat) (rs : List Nat) : Sh1 W W lk rs 0 (.slice none 0 0) (.slice none 0 0) :=
  ⟨Below.refl _ _, Pair.nil _ _⟩
theorem Sh1.small {W wr : World} {lk : Nat → Nat} {rs : List Nat} {k : Nat} {vo vm : Value} (h : Sh1 W wr lk rs k vo vm) (hrl : rs.length ≤ 100000) :
    (ints (meetAll [] ((rs.take k).map lk)).1).length ≤ 1000000000 ∧ (meetAll [] ((rs.take k).map lk)).2.length ≤ 1000000000 := by
  have h1 := meetAll_len_le [] ((rs.take k).map lk)
  rw [ints_length, meetAll_length]
  simp at h1 ⊢
  omega
theorem below_own {B : Nat} {W w w' : World} {vo vm : Value} {os : List Int} {met : List Nat} (hb : Below B W w) (hp : Pair B w vo vm os met) (hB : B ≤ w.heap.size) (ht : Turns (OwnB vo vm) w w') : Below B W w' :=
  hb.trans (ht.below hB (fun k hk => (hp.lts k hk).1))
theorem Sh1.step {W wr w1 w2 : World} {lk : Nat → Nat} {rs : List Nat} {k p : Nat} {vo vm : Value} {e : Ending} (h : Sh1 W wr lk rs k vo vm) (hp : rs[k]? = some p) (hb : Below wr.heap.size wr w1)
    (hm : MeetV W.heap.size vo vm (ints (meetAll [] ((rs.take k).map lk)).1) (meetAll [] ((rs.take k).map lk)).2 (lk p) w1 e w2) :
    ∃ vo' vm', e = .returned (.tuple #[vo', vm']) ∧ Sh1 W w2 lk rs (k + 1) vo' vm' := by
  obtain ⟨vo', vm', he, hpr, ht, _⟩ := hm
  have hb1 := h.bl.trans (hb.mono h.bl.size)
  refine ⟨vo', vm', he, below_own hb1 (h.pr.below hb) hb1.size ht, ?_⟩
  rw [take_map_snoc lk rs k p hp, meetAll_snoc, ints_snoc]
  exact hpr

/-- The second loop: the places whose nodes have been written down. -/
structure Sh2 (W wr : World) (lk : Nat → Nat) (nd : Nat → Nd) (L ix : List Nat) (M : List Nat) (acc : List (List Nat)) (i : Nat) (Mi : List Nat) (acci : List (List Nat)) (vo vm : Value) : Prop where
  bl : Below W.heap.size W wr
  al : acci.length = i
  il : i ≤ Mi.length
  go : bfs lk (argsOf nd) (L.length + 1 - i) i Mi acci = (M, acc)
  nu : Mi.Nodup
  inL : ∀ p ∈ Mi, p ∈ L ∧ lk p = p
  ll : ∀ l ∈ acci, l.length ≤ 255
  pr : Pair W.heap.size wr vo vm (ints ix ++ rows nd Mi acci i) Mi

theorem rows_len (nd : Nat → Nd) (M : List Nat) (acc : List (List Nat)) (h : ∀ l ∈ acc, l.length ≤ 255) (i : Nat) : (rows nd M acc i).length ≤ 258 * i := by
  induction i with
  | zero => simp [rows]
  | succ i ih =>
    rw [rows_succ]
    have : (acc.getD i []).length ≤ 255 := by
      by_cases hi : i < acc.length
      · have e : acc.getD i [] = acc[i] := by simp [hi]
        rw [e]; exact h _ (List.getElem_mem hi)
      · simp [Nat.le_of_not_lt hi]
    simp only [List.length_append, List.length_cons, nats, List.length_map]; omega

section
variable {W wr w1 w2 : World} {lk : Nat → Nat} {nd : Nat → Nd} {L ix M Mi : List Nat} {acc acci : List (List Nat)} {i : Nat} {vo vm : Value}

theorem Sh2.start {rs : List Nat} {M0 : List Nat} (h : Sh1 W wr lk rs rs.length vo vm) (h0 : meetAll [] (rs.map lk) = (ix, M0)) (hrs : ∀ p ∈ rs, p ∈ L) (hlk : ∀ p ∈ L, lk p ∈ L ∧ lk (lk p) = lk p)
    (hb : bfs lk (argsOf nd) (L.length + 1) 0 M0 [] = (M, acc)) : Sh2 W wr lk nd L ix M acc 0 M0 [] vo vm := by
  have hp := h.pr
  rw [List.take_length, h0] at hp
  have e2 : M0 = (meetAll [] (rs.map lk)).2 := by rw [h0]
  refine ⟨h.bl, rfl, Nat.zero_le _, hb, by rw [e2]; exact meetAll_nodup _ _ List.nodup_nil, fun p hp => ?_, fun l hl => by simp at hl, by simpa [rows] using hp⟩
  rw [e2] at hp
  rcases meetAll_mem _ _ _ hp with h | h
  · simp at h
  · obtain ⟨q, hq, rfl⟩ := List.mem_map.1 h
    exact hlk q (hrs q hq)
theorem Sh2.mle (h : Sh2 W wr lk nd L ix M acc i Mi acci vo vm) : Mi.length ≤ L.length := nodup_len h.nu (fun x hx => (h.inL x hx).1)
theorem Sh2.small (h : Sh2 W wr lk nd L ix M acc i Mi acci vo vm) (hix : ix.length ≤ 100000) (hL : L.length ≤ 600000) : (ints ix ++ rows nd Mi acci i).length ≤ 200000000 ∧ Mi.length ≤ 600000 := by
  have h1 := h.mle
  have h2 := rows_len nd Mi acci h.ll i
  have h3 := h.il
  rw [List.length_append, ints_length]; omega
theorem Sh2.fin (h : Sh2 W wr lk nd L ix M acc i Mi acci vo vm) (hi : Mi.length ≤ i) (hsm : (ints ix ++ rows nd Mi acci i).length ≤ 200000000) : (shapeOf nd ix M acc).length ≤ 200000000 ∧ Below W.heap.size W wr ∧ wr.ownsRow W.heap.size 3 1 vo (shapeOf nd ix M acc).length ((shapeOf nd ix M acc).map (Value.int .i64)) := by
  have hg := h.go
  rw [bfs_stop _ _ _ _ _ _ hi] at hg
  injection hg with e1 e2
  subst e1 e2
  have hii : i = Mi.length := by have := h.il; omega
  have hr := h.pr.ro
  rw [hii] at hr hsm
  exact ⟨hsm, h.bl, hr⟩

/-- The inner loop: the args of one place. -/
structure Sh3 (W wz : World) (lk : Nat → Nat) (os : List Int) (Mi : List Nat) (args : List Nat) (bx : Nat) (kd m : Int) (A : Option Addr) (cap k : Nat) (vo vm : Value) : Prop where
  bl : Below W.heap.size W wz
  pr : Pair W.heap.size wz vo vm (os ++ ints (meetAll Mi ((args.take k).map lk)).1) (meetAll Mi ((args.take k).map lk)).2
  bx : Blk wz bx 54 #[.int .i64 kd, .int .i64 m, .slice A args.length cap]
  sl : IntSl (OwnB vo vm) wz A cap (ints args)

theorem Sh3.cell {os : List Int} {args : List Nat} {bx : Nat} {kd m : Int} {A : Option Addr} {cap k : Nat} (h : Sh3 W wr lk os Mi args bx kd m A cap k vo vm) : wr.cell? ⟨bx, 2, none⟩ = some (.slice A args.length cap) := (h.bx.cell 2).trans rfl
theorem Sh3.next {os : List Int} {args : List Nat} {bx : Nat} {kd m : Int} {A : Option Addr} {cap k : Nat} (h : Sh3 W wr lk os Mi args bx kd m A cap k vo vm) (hb : Below wr.heap.size wr w1) : Sh3 W w1 lk os Mi args bx kd m A cap k vo vm :=
  ⟨h.bl.trans (hb.mono h.bl.size), h.pr.below hb, h.bx.below hb h.bx.lt, h.sl.step (Turns.of_below hb) (fun g hg => .inl hg)⟩
theorem Sh3.step {os : List Int} {args : List Nat} {bx p : Nat} {kd m : Int} {A : Option Addr} {cap k : Nat} {e : Ending} (h : Sh3 W wr lk os Mi args bx kd m A cap k vo vm) (hp : args[k]? = some p)
    (hm : MeetV W.heap.size vo vm (os ++ ints (meetAll Mi ((args.take k).map lk)).1) (meetAll Mi ((args.take k).map lk)).2 (lk p) wr e w2) :
    ∃ vo' vm', e = .returned (.tuple #[vo', vm']) ∧ Sh3 W w2 lk os Mi args bx kd m A cap (k + 1) vo' vm' := by
  obtain ⟨vo', vm', he, hpr, ht, hs⟩ := hm
  refine ⟨vo', vm', he, below_own h.bl h.pr h.bl.size ht, ?_, h.bx.turns ht ?_, h.sl.step ht hs⟩
  · rw [take_map_snoc lk args k p hp, meetAll_snoc, ints_snoc, ← List.append_assoc]
    exact hpr
  · rintro (hg | hg)
    · exact own_blk_ne h.pr.ro h.bx (by decide) hg
    · exact own_blk_ne h.pr.rm h.bx (by decide) hg
theorem Sh3.small {os : List Int} {args : List Nat} {bx : Nat} {kd m : Int} {A : Option Addr} {cap k : Nat} (_ : Sh3 W wr lk os Mi args bx kd m A cap k vo vm) (h1 : os.length ≤ 200000003) (h2 : Mi.length ≤ 600000) (h3 : args.length ≤ 255) :
    (os ++ ints (meetAll Mi ((args.take k).map lk)).1).length ≤ 1000000000 ∧ (meetAll Mi ((args.take k).map lk)).2.length ≤ 1000000000 := by
  have h4 := meetAll_len_le Mi ((args.take k).map lk)
  rw [List.length_append, ints_length, meetAll_length]
  simp at h4 ⊢
  omega

/-- The inner loop begins behind the three numbers. -/
theorem Sh3.start (h : Sh2 W wr lk nd L ix M acc i Mi acci vo vm) {p : Nat} {A : Option Addr} {cap g cap2 H : Nat} (hb : Below wr.heap.size wr w1) (hsl : IntSl (fun g => g < wr.heap.size) w1 A cap (ints (nd p).2.2)) {W2 W3 : World}
    (hW2 : W2 = w1.alloc (.cells #[.int .i64 (nd p).1, .int .i64 (nd p).2.1, .slice A (nd p).2.2.length cap] 54)) (hb3 : Below W2.heap.size W2 W3) (hH : W3.heap.size = H)
    (hown : w2.ownsRow W.heap.size 3 1 (.slice (some ⟨g, 0, none⟩) ((ints ix ++ rows nd Mi acci i).length + 3) cap2) ((ints ix ++ rows nd Mi acci i).length + 3) ((ints ix ++ rows nd Mi acci i).map (Value.int .i64) ++ [.int .i64 (-1), .int .i64 (nd p).1, .int .i64 (nd p).2.1]))
    (hgrow : W3.grownBy w2 vo.ownBlock) (hat : vo.ownBlock = some g ∨ g = H) :
    Sh3 W w2 lk (ints ix ++ rows nd Mi acci i ++ [-1, (nd p).1, (nd p).2.1]) Mi (nd p).2.2 w1.heap.size (nd p).1 (nd p).2.1 A cap 0 (.slice (some ⟨g, 0, none⟩) ((ints ix ++ rows nd Mi acci i).length + 3) cap2) vm := by
  have hbx2 : Below w1.heap.size w1 W2 := by rw [hW2]; exact below1 _
  have B2 : Blk W2 w1.heap.size 54 #[.int .i64 (nd p).1, .int .i64 (nd p).2.1, .slice A (nd p).2.2.length cap] := by rw [hW2]; exact Blk.new _ _ _
  have hbw2 : Below wr.heap.size wr W2 := hb.trans (hbx2.mono hb.size)
  have hpr2 := h.pr.below hbw2
  have hbl2 := h.bl.trans (hbw2.mono h.bl.size)
  have hsl2 : IntSl (OwnB vo vm) W2 A cap (ints (nd p).2.2) := hsl.step (S' := OwnB vo vm) (Turns.of_below hbx2) (fun g hg => .inl (h.pr.lts g hg).2)
  obtain ⟨a1, a2, a3⟩ := hpr2.app hb3 (m := 3) (xs := [-1, (nd p).1, (nd p).2.1]) rfl hown hgrow hH hat
  refine ⟨below_own hbl2 hpr2 hbl2.size a2, ?_, B2.turns a2 ?_, hsl2.step a2 a3⟩
  · have e : meetAll Mi (((nd p).2.2.take 0).map lk) = ([], Mi) := rfl
    rw [e]
    simpa [ints] using a1
  · rintro (hg | hg)
    · exact own_blk_ne hpr2.ro B2 (by decide) hg
    · exact own_blk_ne hpr2.rm B2 (by decide) hg

/-- The inner loop is over. -/
theorem Sh3.fin {wz : World} {vo' vm' : Value} {bx : Nat} {A : Option Addr} {cap p : Nat} {kd m : Int} (h : Sh2 W wr lk nd L ix M acc i Mi acci vo vm) (hp : Mi[i]? = some p) (hlk : ∀ p ∈ L, lk p ∈ L ∧ lk (lk p) = lk p) (hargs : ∀ q ∈ (nd p).2.2, q ∈ L) (hle : (nd p).2.2.length ≤ 255)
    (h3 : Sh3 W wz lk (ints ix ++ rows nd Mi acci i ++ [-1, (nd p).1, (nd p).2.1]) Mi (nd p).2.2 bx kd m A cap (nd p).2.2.length vo' vm') :
    Sh2 W wz lk nd L ix M acc (i + 1) (meetAll Mi ((nd p).2.2.map lk)).2 (acci ++ [(meetAll Mi ((nd p).2.2.map lk)).1]) vo' vm' := by
  obtain ⟨hil, hpe⟩ := List.getElem?_eq_some_iff.1 hp
  obtain ⟨r, hr⟩ := meetAll_prefix Mi ((nd p).2.2.map lk)
  have hpr := h3.pr
  rw [List.take_length] at hpr
  refine ⟨h3.bl, by rw [List.length_append, h.al]; rfl, by rw [hr]; simp; omega, ?_, meetAll_nodup _ _ h.nu, ?_, ?_, ?_⟩
  · have hm := h.mle
    have hgo := h.go
    rw [show L.length + 1 - i = (L.length + 1 - (i + 1)) + 1 from by omega] at hgo
    simp only [bfs, hil, dif_pos, hpe] at hgo
    exact hgo
  · intro q hq
    rcases meetAll_mem _ _ _ hq with h1 | h1
    · exact h.inL q h1
    · obtain ⟨x, hx, rfl⟩ := List.mem_map.1 h1
      exact hlk x (hargs x hx)
  · intro l hl
    rcases List.mem_append.1 hl with h1 | h1
    · exact h.ll l h1
    · simp at h1; subst h1
      rw [meetAll_length]; simpa using hle
  · have e1 : rows nd (meetAll Mi ((nd p).2.2.map lk)).2 (acci ++ [(meetAll Mi ((nd p).2.2.map lk)).1]) (i + 1) = rows nd Mi acci i ++ ((-1 : Int) :: (nd p).1 :: (nd p).2.1 :: nats (meetAll Mi ((nd p).2.2.map lk)).1) := by
      rw [rows_succ, hr, rows_ext nd Mi r acci _ i h.il (by rw [h.al]; exact Nat.le_refl _)]
      have g1 : (Mi ++ r).getD i 0 = p := by
        simp only [List.getD_eq_getElem?_getD]; rw [List.getElem?_append_left hil, hp]; rfl
      have g2 : (acci ++ [(meetAll Mi ((nd p).2.2.map lk)).1]).getD i [] = (meetAll Mi ((nd p).2.2.map lk)).1 := by
        simp only [List.getD_eq_getElem?_getD]; rw [List.getElem?_append_right (by rw [h.al]; exact Nat.le_refl _), h.al]; simp
      rw [g1, g2]
    have e0 : nats (meetAll Mi ((nd p).2.2.map lk)).1 = ints (meetAll Mi ((nd p).2.2.map lk)).1 := rfl
    rw [e1, e0]
    simpa [List.append_assoc] using hpr
end
end Go.Proofs.Ytfeghobfkgimfaa
