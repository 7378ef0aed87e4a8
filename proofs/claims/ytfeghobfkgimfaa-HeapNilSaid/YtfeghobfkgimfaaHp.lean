/- A heap as its callers see it: places, what stands for what, nodes. -/
import Derived.Test.YtfeghobfkgimfaaStand
import Derived.Test.YtfeghobfkgimfaaNew
import Derived.Test.YtfeghobfkgimfaaCollect
namespace Go.Proofs.Ytfeghobfkgimfaa
open Go.RowKit Go.Shelf

def Hp (w : World) (b cb gb n u : Nat) (L : List Nat) (sz lk : Nat → Nat) (nd : Nat → Nd) : Prop :=
  ∃ o1 o2 C G, ((o1 = 0 ∧ o2 = n) ∨ (o1 = n ∧ o2 = 0)) ∧ Room n o1 u C G L sz lk nd ∧ (∀ x, x < n → G (o2 + x) = false) ∧ HRows w w b cb gb (2 * n) (topV cb gb n o1 u L.length o2 0 0) C G

section
variable {w w' : World} {b cb gb n u : Nat} {L : List Nat} {sz lk : Nat → Nat} {nd : Nat → Nd}

theorem Hp.lts (h : Hp w b cb gb n u L sz lk nd) : b < w.heap.size ∧ cb < w.heap.size ∧ gb < w.heap.size := by
  obtain ⟨_, _, _, _, _, _, _, hr⟩ := h
  exact ⟨hr.rb.lt, hr.rc.lt, hr.rg.lt⟩
theorem Hp.hu (h : Hp w b cb gb n u L sz lk nd) : u ≤ n := by
  obtain ⟨_, _, _, _, _, hR, _, _⟩ := h; exact hR.hu
theorem Hp.tiles (h : Hp w b cb gb n u L sz lk nd) : Tiles L sz u := by
  obtain ⟨_, _, _, _, _, hR, _, _⟩ := h; exact hR.tiles
theorem Hp.lkin (h : Hp w b cb gb n u L sz lk nd) : ∀ p ∈ L, lk p ∈ L ∧ lk (lk p) = lk p := by
  obtain ⟨_, _, _, _, _, hR, _, _⟩ := h; exact fun p hp => ⟨(hR.lkin p hp).1, (hR.lkin p hp).2.1⟩
theorem Hp.argsin (h : Hp w b cb gb n u L sz lk nd) : ∀ p ∈ L, lk p = p → ∀ a ∈ (nd p).2.2, a ∈ L := by
  obtain ⟨_, _, _, _, _, hR, _, _⟩ := h; exact fun p hp hl => (hR.node p hp hl).2.2
theorem Hp.oknd (h : Hp w b cb gb n u L sz lk nd) : ∀ p ∈ L, lk p = p → okNode (nd p).1 (nd p).2.1 (ints (nd p).2.2) := by
  obtain ⟨_, _, _, _, _, hR, _, _⟩ := h; exact fun p hp hl => (hR.node p hp hl).1.1
theorem Hp.len2 (h : Hp w b cb gb n u L sz lk nd) : 2 * L.length ≤ u := by
  have h1 := two_le_sum sz L h.tiles.two
  rw [h.tiles.total] at h1; exact h1

theorem Hp.turns (h : Hp w b cb gb n u L sz lk nd) {S : Nat → Prop} (k : Turns S w w') (hs : ∀ x, S x → ¬ In3 b cb gb x) : Hp w' b cb gb n u L sz lk nd := by
  obtain ⟨o1, o2, C, G, ho, hR, h2, hr⟩ := h
  refine ⟨o1, o2, C, G, ho, hR, h2, k.row hr.rb (fun x => hs _ x (.inl rfl)), k.row hr.rc (fun x => hs _ x (.inr (.inl rfl))), k.row hr.rg (fun x => hs _ x (.inr (.inr rfl))), Turns.refl _ _⟩
theorem Hp.below (h : Hp w b cb gb n u L sz lk nd) (k : Below w.heap.size w w') : Hp w' b cb gb n u L sz lk nd :=
  h.turns (Turns.of_below k (S := fun _ => False)) (fun _ x => x.elim)

theorem Room.empty (n o : Nat) : Room n o 0 (fun _ => 0) (fun _ => false) [] (fun _ => 0) id (fun _ => (0, 0, [])) :=
  ⟨⟨fun i h => absurd h (by simp), rfl, fun p hp => absurd hp (by simp)⟩, Nat.zero_le _, fun x _ => by simp, fun p hp => absurd hp (by simp), fun p hp => absurd hp (by simp)⟩

theorem HNew.hp {B : Nat} {e : Ending} (h : HNew n B w e w') : ∃ b cb gb, e = .returned (.tuple #[.pointer (some ⟨b, 0, none⟩), .int .i64 0]) ∧ B ≤ b ∧ B ≤ cb ∧ B ≤ gb ∧ Below B w w' ∧ Hp w' b cb gb n 0 [] (fun _ => 0) id (fun _ => (0, 0, [])) := by
  obtain ⟨b, cb, gb, he, h1, h2, h3, h4, h5⟩ := h
  exact ⟨b, cb, gb, he, h1, h2, h3, h4, 0, n, _, _, .inl ⟨rfl, rfl⟩, Room.empty n 0, fun _ _ => rfl, h5⟩

/-- Put's answers. -/
def PutH (w : World) (b cb gb n u : Nat) (L : List Nat) (sz lk : Nat → Nat) (nd : Nat → Nd) (k m : Int) (xs : List Nat) (e : Ending) (w' : World) : Prop :=
  Turns (In3 b cb gb) w w' ∧
  ((u + (enc k m (ints xs)).length ≤ n ∧ e = .returned (.tuple #[.int .i64 u, .int .i64 0]) ∧ Hp w' b cb gb n (u + (enc k m (ints xs)).length) (L ++ [u]) (upd sz u (enc k m (ints xs)).length) (upd lk u u) (upd nd u (k, m, xs))) ∨
   (n < u + (enc k m (ints xs)).length ∧ e = .returned (.tuple #[.int .i64 0, .int .i64 51]) ∧ Hp w' b cb gb n u L sz lk nd))

theorem Hp.put (h : Hp w b cb gb n u L sz lk nd) (hn0 : 1 ≤ n) (hn : n ≤ 1048576) {k m : Int} {xs : List Nat} {A : Option Addr} {cap : Nat} (hok : okNode k m (ints xs)) (hA : IntSl (In3 b cb gb) w A cap (ints xs)) (hx : ∀ a ∈ xs, a ∈ L) :
    Calls Try.prog 21 #[.pointer (some ⟨b, 0, none⟩), .agg #[.int .i64 k, .int .i64 m, .slice A xs.length cap]] w (PutH w b cb gb n u L sz lk nd k m xs) := by
  have h2l := h.len2
  have hhu := h.hu
  obtain ⟨o1, o2, C, G, ho, hR, h2, hr⟩ := h
  have := put_any w w b cb gb n o1 u L.length o2 0 0 C G k m A cap (ints xs) hn0 hn (by rcases ho with ⟨rfl, rfl⟩ | ⟨rfl, rfl⟩ <;> omega) hR.hu (by omega) hr hok hA (fun x hx' => by
    obtain ⟨p, hp, rfl⟩ := List.mem_map.1 hx'
    have hpL := hx p hp
    have := hR.tiles.fit p hpL; have := hR.tiles.two p hpL
    exact ⟨p, rfl, by omega, (hR.mark p (by omega)).2 hpL⟩)
  rw [ints_length] at this
  refine this.mono ?_
  rintro e w' ⟨h3, h4⟩
  by_cases hf : u + (enc k m (ints xs)).length ≤ n
  · obtain ⟨he, hr'⟩ := h3 hf
    refine ⟨hr'.tu, .inl ⟨hf, he, o1, o2, _, _, ho, hR.put hok hx hf, ?_, ?_⟩⟩
    · intro x hxn
      rw [upd_ne _ _ (by have := enc_pos hok; rcases ho with ⟨rfl, rfl⟩ | ⟨rfl, rfl⟩ <;> omega)]
      exact h2 x hxn
    · rw [List.length_append]; exact hr'.start
  · obtain ⟨he, hr'⟩ := h4 (by omega)
    exact ⟨hr'.tu, .inr ⟨by omega, he, o1, o2, _, _, ho, hR, h2, hr'.start⟩⟩

theorem Hp.used (h : Hp w b cb gb n u L sz lk nd) (hn0 : 1 ≤ n) : Calls Try.prog 20 #[.pointer (some ⟨b, 0, none⟩)] w fun e w' => e = .returned (.int .i64 u) ∧ w = w' := by
  obtain ⟨o1, o2, C, G, ho, hR, h2, hr⟩ := h
  exact used_any w w b cb gb n o1 u L.length o2 0 0 C G hn0 hr
theorem Hp.len (h : Hp w b cb gb n u L sz lk nd) (hn0 : 1 ≤ n) : Calls Try.prog 19 #[.pointer (some ⟨b, 0, none⟩)] w fun e w' => e = .returned (.int .i64 L.length) ∧ w = w' := by
  obtain ⟨o1, o2, C, G, ho, hR, h2, hr⟩ := h
  exact len_any w w b cb gb n o1 u L.length o2 0 0 C G hn0 hr
theorem Hp.size (h : Hp w b cb gb n u L sz lk nd) (hn0 : 1 ≤ n) : Calls Try.prog 32 #[.pointer (some ⟨b, 0, none⟩)] w fun e w' => e = .returned (.int .i64 n) ∧ w = w' := by
  obtain ⟨o1, o2, C, G, ho, hR, h2, hr⟩ := h
  exact size_any w w b cb gb n o1 u L.length o2 0 0 C G hn0 hr

theorem Room.plc {o : Nat} {C : Nat → Int} {G : Nat → Bool} (h : Room n o u C G L sz lk nd) {p : Nat} (hp : p ∈ L) : p + 1 < u ∧ G (o + p) = true := by
  have := h.tiles.fit p hp; have := h.tiles.two p hp; have := h.hu
  exact ⟨by omega, (h.mark p (by omega)).2 hp⟩
theorem Room.chn {o : Nat} {C : Nat → Int} {G : Nat → Bool} (h : Room n o u C G L sz lk nd) {p : Nat} (hp : p ∈ L) : ∃ k, Chain C o n p (lk p) k := by
  obtain ⟨_, _, k, hk⟩ := h.lkin p hp
  exact ⟨k, hk.chain (fun x hx => by have := (h.plc hx).1; have := h.hu; omega)⟩

theorem Hp.look (h : Hp w b cb gb n u L sz lk nd) (hn0 : 1 ≤ n) (hn : n ≤ 1048576) {p : Nat} (hp : p ∈ L) :
    Calls Try.prog 29 #[.pointer (some ⟨b, 0, none⟩), .int .i64 p] w fun e w' => e = .returned (.tuple #[.int .i64 (lk p : Nat), .int .i64 0]) ∧ Below w.heap.size w w' := by
  obtain ⟨o1, o2, C, G, ho, hR, h2, hr⟩ := h
  obtain ⟨k, hk⟩ := hR.chn hp
  have := hR.plc hp
  exact look_ok w w b cb gb n o1 u L.length o2 0 0 C G p (lk p) k hn0 hn hR.hu hr (by rcases ho with ⟨rfl, rfl⟩ | ⟨rfl, rfl⟩ <;> omega) (by omega) this.2 hk

theorem Hp.get (h : Hp w b cb gb n u L sz lk nd) (hn0 : 1 ≤ n) (hn : n ≤ 1048576) {p : Nat} (hp : p ∈ L) (hl : lk p = p) :
    Calls Try.prog 28 #[.pointer (some ⟨b, 0, none⟩), .int .i64 p] w (GetV (nd p).1 (nd p).2.1 (ints (nd p).2.2) w) := by
  obtain ⟨o1, o2, C, G, ho, hR, h2, hr⟩ := h
  have := hR.plc hp
  have hnd := hR.node p hp hl
  exact get_ok w w b cb gb n o1 u L.length o2 0 0 C G p _ _ _ hn0 hn hR.hu hr (by rcases ho with ⟨rfl, rfl⟩ | ⟨rfl, rfl⟩ <;> omega) (by omega) this.2 (by rw [hnd.2.1]; have := hR.tiles.fit p hp; have := hR.hu; omega) hnd.1

theorem Hp.stand (h : Hp w b cb gb n u L sz lk nd) (hn0 : 1 ≤ n) (hn : n ≤ 1048576) {p q : Nat} (hp : p ∈ L) (hq : q ∈ L) :
    Calls Try.prog 30 #[.pointer (some ⟨b, 0, none⟩), .int .i64 p, .int .i64 q] w fun e w' => e = .returned (.int .i64 0) ∧ Turns (In3 b cb gb) w w' ∧ Hp w' b cb gb n u L sz (stdF lk (lk p) (lk q)) nd := by
  obtain ⟨o1, o2, C, G, ho, hR, h2, hr⟩ := h
  obtain ⟨k, hk⟩ := hR.chn hp
  obtain ⟨k', hk'⟩ := hR.chn hq
  have h3 := hR.plc hp; have h4 := hR.plc hq
  have h5 := hR.lkin p hp; have h6 := hR.lkin q hq
  have h7 := hR.plc h5.1
  refine (stand_ok w w b cb gb n o1 u L.length o2 0 0 C G p q (lk p) (lk q) k k' hn0 hn hR.hu hr (by rcases ho with ⟨rfl, rfl⟩ | ⟨rfl, rfl⟩ <;> omega) (by omega) h3.2 (by omega) h4.2 hk hk' (by have := hR.hu; omega)).mono ?_
  rintro e w' ⟨rfl, ha, hb⟩
  by_cases e : lk p = lk q
  · have := ha e
    refine ⟨rfl, this.tu, o1, o2, C, G, ho, ?_, h2, this.start⟩
    rw [e, stdF_same]; exact hR
  · have := hb e
    exact ⟨rfl, this.tu, o1, o2, _, G, ho, hR.stand h5.1 h5.2.1 h6.1 h6.2.1 e, h2, this.start⟩

/-- Collect's answers. -/
def CollH (w : World) (b cb gb n u : Nat) (L : List Nat) (sz lk : Nat → Nat) (nd : Nat → Nd) (rs : List Nat) (e : Ending) (w' : World) : Prop :=
  ∃ out M acc u2, e = .returned (.tuple #[out, .int .i64 0]) ∧ Turns (In3 b cb gb) w w' ∧
    w'.ownsRow w.heap.size 3 1 out rs.length ((adrs sz M (meetAll [] (rs.map lk)).1).map (Value.int .i64)) ∧ u2 ≤ u ∧ acc.length = M.length ∧
    bfs lk (argsOf nd) (L.length + 1) 0 (meetAll [] (rs.map lk)).2 [] = (M, acc) ∧ M.Nodup ∧ (∀ p ∈ M, p ∈ L ∧ lk p = p) ∧ (∀ l ∈ acc, ∀ x ∈ l, x < M.length) ∧ (∀ x ∈ (meetAll [] (rs.map lk)).1, x < M.length) ∧
    Hp w' b cb gb n u2 (newL sz M) (newSz sz M) id (newNd sz nd M acc)

theorem Hp.collect (h : Hp w b cb gb n u L sz lk nd) (hn0 : 1 ≤ n) (hn : n ≤ 1048576) {rs : List Nat} {A : Option Addr} {cap : Nat} (hA : IntSl (In3 b cb gb) w A cap (ints rs)) (hrs : ∀ p ∈ rs, p ∈ L) (hrl : rs.length ≤ 100000) :
    Calls Try.prog 25 #[.pointer (some ⟨b, 0, none⟩), .slice A rs.length cap] w (CollH w b cb gb n u L sz lk nd rs) := by
  obtain ⟨o1, o2, C, G, ho, hR, h2, hr⟩ := h
  refine (collect_any w w b cb gb n o1 u L.length o2 C G L sz lk nd A cap rs hn0 hn ho hR h2 hr hA hrs hrl).mono ?_
  rintro e w' ⟨out, M, acc, C', G', u2, he, hown, hr', hG, hu2, hl, hb, hnd, hin, h3, h4, hR'⟩
  refine ⟨out, M, acc, u2, he, hr'.tu, hown, hu2, hl, hb, hnd, hin, h3, h4, o2, o1, C', G', ho.elim (fun h => .inr ⟨h.2, h.1⟩) (fun h => .inl ⟨h.2, h.1⟩), hR', hG, ?_⟩
  rw [newL_length]; exact hr'.start
end
end Go.Proofs.Ytfeghobfkgimfaa
