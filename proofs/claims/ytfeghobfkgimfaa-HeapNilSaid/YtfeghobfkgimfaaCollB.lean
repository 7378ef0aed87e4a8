/- Collect's three loops, as relations, and their steps. -/
import Derived.Test.YtfeghobfkgimfaaCollA
namespace Go.Proofs.Ytfeghobfkgimfaa
open Go.RowKit

def cN (nd : Nat → Nd) (M : List Nat) : Nat → List Int := fun j => ints (nd (M.getD j 0)).2.2
def adrs (sz : Nat → Nat) (M : List Nat) (ix : List Nat) : List Int := ix.map (fun x => ((Adr sz M x : Nat) : Int))
theorem adrs_length (sz : Nat → Nat) (M ix : List Nat) : (adrs sz M ix).length = ix.length := by simp [adrs]

theorem adrs_ext (sz : Nat → Nat) (M r ix : List Nat) (h : ∀ x ∈ ix, x < M.length) : adrs sz (M ++ r) ix = adrs sz M ix := by
  unfold adrs
  apply List.map_congr_left
  intro x hx
  rw [Adr_ext sz M r x (by have := h x hx; omega)]

section
variable (W1 : World) (n o1 o2 u1 c1 b cb gb : Nat) (L : List Nat) (sz lk : Nat → Nat) (nd : Nat → Nd)

def Loop1 (rs : List Nat) (k : Nat) (out : Value) (wr : World) : Prop :=
  ∃ C G u2, Chey n o1 o2 u1 L sz lk nd (meetAll [] ((rs.take k).map lk)).2 (cN nd (meetAll [] ((rs.take k).map lk)).2) C G u2 ∧
    HRows W1 wr b cb gb (2 * n) (topV cb gb n o1 u1 c1 o2 u2 (meetAll [] ((rs.take k).map lk)).2.length) C G ∧
    wr.ownsRow W1.heap.size 3 1 out k ((adrs sz (meetAll [] ((rs.take k).map lk)).2 (meetAll [] ((rs.take k).map lk)).1).map (Value.int .i64))

variable {W1 n o1 o2 u1 c1 b cb gb L sz lk nd}
theorem contF_cN {M : List Nat} {t j : Nat} (h : j < (meetF M t).2.length) : cN nd (meetF M t).2 j = contF nd (cN nd M) M t j := by
  unfold meetF at h ⊢
  unfold cN contF
  split
  · rename_i hm
    rw [if_pos hm] at h
    simp only at h
    rw [if_neg (by omega)]
  · rename_i hm
    rw [if_neg hm] at h
    simp at h
    by_cases e : j = M.length
    · subst e; simp
    · rw [if_neg e]
      simp only [List.getD_eq_getElem?_getD]
      rw [List.getElem?_append_left (by omega)]

theorem Loop1.step {rs : List Nat} {k : Nat} {out out' : Value} {wr w1 w2 : World} {e : Ending} (hk : k < rs.length) (h : Loop1 W1 n o1 o2 u1 c1 b cb gb L sz lk nd rs k out wr) (hb : b < W1.heap.size) (hcb : cb < W1.heap.size) (hgb : gb < W1.heap.size)
    (hf : FwdV wr n o1 o2 u1 c1 b cb gb L sz lk nd (meetAll [] ((rs.take k).map lk)).2 (cN nd (meetAll [] ((rs.take k).map lk)).2) (lk rs[k]) e w1)
    {o : Obj} {q : Int} (he : e = .returned (.int .i64 q)) (hown : w2.ownsRow W1.heap.size 3 1 out' (k + 1) ((adrs sz (meetAll [] ((rs.take k).map lk)).2 (meetAll [] ((rs.take k).map lk)).1).map (Value.int .i64) ++ [.int .i64 q]))
    (hgrow : (w1.alloc o).grownBy w2 out.ownBlock) : Loop1 W1 n o1 o2 u1 c1 b cb gb L sz lk nd rs (k + 1) out' w2 := by
  obtain ⟨C, G, u2, hch, hr, ho⟩ := h
  obtain ⟨C', G', u2', hq, hch', hr'⟩ := hf
  rw [he] at hq
  have hq' : q = ((Adr sz (meetF (meetAll [] ((rs.take k).map lk)).2 (lk rs[k])).2 (meetF (meetAll [] ((rs.take k).map lk)).2 (lk rs[k])).1 : Nat) : Int) := by
    injection hq with hq; injection hq
  subst hq'
  have e1 : (rs.take (k + 1)).map lk = (rs.take k).map lk ++ [lk rs[k]] := take_succ_map lk rs k hk
  refine ⟨C', G', u2', ?_, ?_, ?_⟩
  · rw [e1, meetAll_snoc]
    exact hch'.recont (fun j hj => contF_cN hj)
  · rw [e1, meetAll_snoc]
    exact ((hr'.after hr.tu).alloc o).grown hgrow (fun x hx => (ho.lt x hx).1) hb hcb hgb
  · rw [e1, meetAll_snoc]
    obtain ⟨r, hpre⟩ := meetF_prefix (meetAll [] ((rs.take k).map lk)).2 (lk rs[k])
    have e2 : adrs sz (meetF (meetAll [] ((rs.take k).map lk)).2 (lk rs[k])).2 ((meetAll [] ((rs.take k).map lk)).1 ++ [(meetF (meetAll [] ((rs.take k).map lk)).2 (lk rs[k])).1]) =
        adrs sz (meetAll [] ((rs.take k).map lk)).2 (meetAll [] ((rs.take k).map lk)).1 ++ [((Adr sz (meetF (meetAll [] ((rs.take k).map lk)).2 (lk rs[k])).2 (meetF (meetAll [] ((rs.take k).map lk)).2 (lk rs[k])).1 : Nat) : Int)] := by
      rw [← adrs_ext sz (meetAll [] ((rs.take k).map lk)).2 r _ (meetAll_lt [] ((rs.take k).map lk)), ← hpre]
      simp [adrs]
    simp only
    rw [e2, List.map_append]
    exact hown

theorem FwdV.int {W0 : World} {M : List Nat} {cont : Nat → List Int} {t : Nat} {e : Ending} {w' : World} (h : FwdV W0 n o1 o2 u1 c1 b cb gb L sz lk nd M cont t e w') : ∃ q : Int, e = .returned (.int .i64 q) := by
  obtain ⟨_, _, _, he, _⟩ := h; exact ⟨_, he⟩
theorem FwdV.turns {W0 : World} {M : List Nat} {cont : Nat → List Int} {t : Nat} {e : Ending} {w' : World} (h : FwdV W0 n o1 o2 u1 c1 b cb gb L sz lk nd M cont t e w') : Turns (In3 b cb gb) W0 w' := by
  obtain ⟨_, _, _, _, _, hr⟩ := h; exact hr.tu

theorem FwdV.cell {W0 : World} {M : List Nat} {cont : Nat → List Int} {t : Nat} {e : Ending} {w' : World} (h : FwdV W0 n o1 o2 u1 c1 b cb gb L sz lk nd M cont t e w') {i : Nat} (hi : i < 2 * n) : ∃ q : Int, w'.cell? ⟨cb, i, none⟩ = some (.int .i64 q) := by
  obtain ⟨_, _, _, _, _, hr⟩ := h; exact ⟨_, hr.rc.cell hi⟩

theorem FwdV.frozen {W0 : World} {M : List Nat} {cont : Nat → List Int} {t : Nat} {e : Ending} {w' : World} (h : FwdV W0 n o1 o2 u1 c1 b cb gb L sz lk nd M cont t e w') : ∀ j, w'.frozen? ⟨cb, j, none⟩ = false := by
  obtain ⟨_, _, _, _, _, hr⟩ := h; exact hr.rc.frozen

theorem Loop1.begin {C : Nat → Int} {G : Nat → Bool} {rs : List Nat} (h : Room n o1 u1 C G L sz lk nd) (h2 : ∀ x, x < n → G (o2 + x) = false) (hr : HRows W1 W1 b cb gb (2 * n) (topV cb gb n o1 u1 c1 o2 0 0) C G) :
    Loop1 W1 n o1 o2 u1 c1 b cb gb L sz lk nd rs 0 (.slice none 0 0) W1 :=
  ⟨C, G, 0, by simpa [meetAll] using Chey.begin h h2 _, by simpa [meetAll] using hr, by simpa [meetAll, adrs] using World.ownsRow_nil _ _ _ _⟩

theorem Room.cst {C : Nat → Int} {G : Nat → Bool} (h : Room n o1 u1 C G L sz lk nd) (hn : n ≤ 1048576) (ho : (o1 = 0 ∧ o2 = n) ∨ (o1 = n ∧ o2 = 0)) : Cst n o1 o2 u1 L sz lk nd :=
  ⟨hn, h.tiles, h.hu, ho, fun p hp => ⟨(h.lkin p hp).1, (h.lkin p hp).2.1⟩, fun p hp hl => (h.node p hp hl).2.1, fun p hp hl => (h.node p hp hl).2.2⟩
end
end Go.Proofs.Ytfeghobfkgimfaa
