/- CheckMoved: a table's copy whose places are moved one by one. -/
import Derived.Test.YtfeghobfkgimfaaMovedC
namespace Go.Proofs.Ytfeghobfkgimfaa
open Go.RowKit Go.Shelf

theorem TabSl.news2 {w : World} {T : Option Addr} {c : Nat} {t : List (Int × Int)} (h : TabSl w T c t) (h0 : 0 < t.length) : ∃ a, T = some a ∧ ∀ j u, ((flat t).map (Value.int .i64))[j]? = some u → w.cell? (a.add j) = some u := by
  obtain ⟨g, o, rfl, _⟩ := h.2 h0
  exact ⟨_, rfl, h.news h0⟩
theorem flat_one (t : List (Int × Int)) : ∀ u ∈ (flat t).map (Value.int .i64), u.oneCell' = true := by
  intro u hu
  obtain ⟨x, _, rfl⟩ := List.mem_map.1 hu
  rfl

/-- The copy while the first k places have been moved. -/
def TabI (W : World) (lo : Nat) (A : Option Addr) (t : List (Int × Int)) (an : Nat) (k : Nat) : Prop :=
  0 < t.length → ∃ g cur, A = some ⟨g, 0, none⟩ ∧ lo ≤ g ∧ Blk W g 46 cur ∧ ∀ i (h : i < t.length), cur[i * 2]? = some (.int .i64 t[i].1) ∧ cur[i * 2 + 1]? = some (.int .i64 (t[i].2 + if i < k then (an : Int) else 0))

theorem TabI.start {W : World} {lo : Nat} {A : Option Addr} {cap n : Nat} {t : List (Int × Int)} {an : Nat} (hn : n = t.length) (h : W.ownsRow lo 46 2 (.slice A n cap) n ((flat t).map (Value.int .i64))) : TabI W lo A t an 0 := by
  intro h0
  obtain ⟨h1, h2⟩ := h
  rcases h2 with ⟨hv, hz⟩ | ⟨g', cap', cur, hv, hlo, hb, hnc, _, _, htake⟩
  · omega
  · injection hv with e1 _ e3
    subst e1
    refine ⟨g', cur, rfl, hlo, hb, fun i hi => ?_⟩
    have hf := flat_get t i hi
    have hg : ∀ j, j < n * 2 → cur[j]? = ((flat t).map (Value.int .i64))[j]? := fun j hj => by
      rw [← htake, List.getElem?_take_of_lt hj, Array.getElem?_toList]
    rw [hg _ (by omega), hg _ (by omega), List.getElem?_map, List.getElem?_map, hf.1, hf.2]
    simp
theorem own_cap {W : World} {B : Nat} {e : TypeId} {sz n c : Nat} {A : Option Addr} {xs : List Value} (ho : W.ownsRow B e sz (.slice A n c) n xs) : n ≤ c := by
  rcases ho.2 with ⟨hv, h0⟩ | ⟨g', cp, cur, hv, _, _, hm, _⟩
  · omega
  · injection hv with _ _ e3; rw [e3]; exact hm
theorem TabI.step {W : World} {lo g k : Nat} {t : List (Int × Int)} {an : Nat} (h : TabI W lo (some ⟨g, 0, none⟩) t an k) (hk : k < t.length) : TabI (W.setCell ⟨g, k * 2 + 1, none⟩ (.int .i64 (t[k].2 + an))) lo (some ⟨g, 0, none⟩) t an (k + 1) := by
  intro h0
  obtain ⟨g', cur, hA, hlo, hb, hc⟩ := h h0
  injection hA with hA
  injection hA with hA
  subst hA
  refine ⟨g, _, rfl, hlo, hb.set_ (k * 2 + 1) _, fun i hi => ?_⟩
  have hi2 := hc i hi
  have hk2 := hc k hk
  have hlen : k * 2 + 1 < cur.size := (Array.getElem?_eq_some_iff.1 hk2.2).1
  constructor
  · rw [Array.getElem?_setIfInBounds, if_neg (by omega)]; exact hi2.1
  · rw [Array.getElem?_setIfInBounds]
    by_cases e : i = k
    · subst e
      rw [if_pos rfl, if_pos hlen, if_pos (by omega)]
    · rw [if_neg (by omega), hi2.2]
      by_cases hik : i < k
      · rw [if_pos hik, if_pos (by omega)]
      · rw [if_neg hik, if_neg (by omega)]
theorem TabI.drew {W : World} {lo k : Nat} {A : Option Addr} {t : List (Int × Int)} {an : Nat} (h : TabI W lo A t an k) : TabI W.drew lo A t an k := h
theorem TabI.far {W : World} {lo k b i : Nat} {A : Option Addr} {t : List (Int × Int)} {an : Nat} (h : TabI W lo A t an k) (hb : b < lo) (u : Value) : TabI (W.setCell ⟨b, i, none⟩ u) lo A t an k := by
  intro h0
  obtain ⟨g, cur, hA, hlo, hbk, hc⟩ := h h0
  exact ⟨g, cur, hA, hlo, hbk.far (by omega) u, hc⟩
theorem TabI.alloc {W : World} {lo k : Nat} {A : Option Addr} {t : List (Int × Int)} {an : Nat} (h : TabI W lo A t an k) (o : Obj) : TabI (W.alloc o) lo A t an k := by
  intro h0
  obtain ⟨g, cur, hA, hlo, hbk, hc⟩ := h h0
  exact ⟨g, cur, hA, hlo, hbk.alloc o, hc⟩
/-- All places moved. -/
theorem TabI.tab {W : World} {lo b0 cap : Nat} {A : Option Addr} {t : List (Int × Int)} {an : Nat} (h : TabI W lo A t an t.length) (hc : t.length ≤ cap) : TabR W b0 A cap (t.map fun q => (q.1, q.2 + (an : Int))) := by
  refine ⟨by simpa using hc, fun h0 => ?_⟩
  obtain ⟨g, cur, hA, hlo, hb, hcur⟩ := h (by simpa using h0)
  refine ⟨g, 0, hA, hb.lt, .inr ⟨cur, hb⟩, fun i hi => ?_⟩
  have hi' : i < t.length := by simpa using hi
  have q := hcur i hi'
  rw [if_pos hi'] at q
  rw [Nat.zero_add, hb.cell, hb.cell]
  simpa using q

theorem row_of_block {W W' : World} {b : Nat} {t : TypeId} {n : Nat} {f : Nat → Value} (h : W.rowIs b t n f) (hh : W'.heap[b]? = W.heap[b]?) : W'.rowIs b t n f := h.of_block hh
theorem row_ne_own {W : World} {B b : Nat} {e t : TypeId} {sz n m : Nat} {v : Value} {xs : List Value} {f : Nat → Value} (h : W.ownsRow B e sz v n xs) (hr : W.rowIs b t m f) (hne : e ≠ t) : some b ≠ v.ownBlock := by
  obtain ⟨c, hb, _⟩ := hr
  exact fun he => own_blk_ne h (show Blk W b t c from hb) hne he.symm

/-- The moved instruction. -/
theorem movI_of {ag an : Nat} {d op a b op1 a1 b1 a2 a3 : Int} {t t1 : List (Int × Int)} (h1 : (⟨op1, a1, b1, t1⟩ : InsD) = (if d = 0 then ⟨15, 0, 0, []⟩ else ⟨op, a, b, t⟩)) (h2 : a2 = if op1 = 16 then a1 + (an : Int) else a1) (h3 : a3 = if op1 = 1 then a2 + (ag : Int) else a2) :
    movI ag an d ⟨op, a, b, t⟩ = ⟨op1, a3, b1, t1.map fun q => (q.1, q.2 + (an : Int))⟩ := by
  unfold movI
  by_cases hd : d = 0
  · rw [if_pos hd] at h1 ⊢
    injection h1 with q1 q2 q3 q4
    subst q1 q2 q3 q4
    rw [h3, h2]; simp
  · rw [if_neg hd] at h1 ⊢
    injection h1 with q1 q2 q3 q4
    subst q1 q2 q3 q4
    rw [h3, h2]
    simp only
    by_cases h16 : op1 = 16
    · have : op1 ≠ 1 := by omega
      simp [h16]
    · by_cases ho : op1 = 1
      · simp [ho]
      · simp [h16, ho]
end Go.Proofs.Ytfeghobfkgimfaa
