/- Right, Reads, Leaves: one contract each. -/
import Derived.Test.YtfeghobfkgimfaaInstrD
namespace Go.Proofs.Ytfeghobfkgimfaa
open Go.RowKit

theorem ret_int {k : IntKind} {a b : Int} (h : a = b) : Ending.returned (.int k a) = .returned (.int k b) := by rw [h]
theorem bne_t {a : Int} (h : a ≠ 0) : (a != 0) = true := by simp [h]
theorem bne_f {a : Int} (h : a = 0) : (a != 0) = false := by simp [h]
theorem beq_t {a : Int} (h : a = 0) : (a == 0) = true := by simp [h]
theorem beq_f {a : Int} (h : a ≠ 0) : (a == 0) = false := by simp [h]
theorem wth_t {a b c : Int} (h : a ≤ b ∧ b ≤ c) : wthB a b c = true := by simp [wthB, h]
theorem wth_f {a b c : Int} (h : ¬ (a ≤ b ∧ b ≤ c)) : wthB a b c = false := by simp [wthB]; omega

theorem right_any (x : InsD) (A : Option Addr) (c : Nat) (w : World) (hT : TabSl w A c x.t) (hlen : x.t.length ≤ 1000000000) :
    Calls Try.prog 81 #[.agg #[.int .i64 x.op, .int .i64 x.a, .int .i64 x.b, .slice A x.t.length c]] w (RightV (rightF x) w) := by
  by_cases hk : 0 ≤ x.op ∧ x.op < 17
  · obtain ⟨op, a, b, t⟩ := x
    obtain ⟨k, hop, hk17⟩ := nat_of _ hk
    simp only at hop hT hlen hk ⊢
    have hF := fun W => form_in k hk17 a b A t.length c W
    have hr : rightOk ⟨op, a, b, t⟩ ↔ ((formD k).nu < 2 → b = 0) ∧ ((formD k).nu < 1 → a = 0) ∧ (0 ≤ (formD k).nu → t = []) ∧
        (if (formD k).nu < 0 then pairsOk op t else op = 0 ∨ (formD k).nu = 0 ∨ (((formD k).le ≤ a ∧ a ≤ (formD k).mo) ∧ (0 ≤ b ∧ b ≤ 255))) := by
      have e : op.toNat = k := by omega
      unfold rightOk
      simp only [e]
      exact ⟨fun h => h.2, fun h => ⟨hk, h⟩⟩
    have hlike := formD_like k hk17
    have h0nu : k = 0 → (formD k).nu = 1 := by rintro rfl; rfl
    rw [← hop] at hF
    cases hfd : formD k with
    | mk nu le mo rd ra lv la =>
      rw [hfd] at hF hr hlike h0nu
      simp only at hr hlike h0nu
      have hnu : nu = -1 ∨ nu = 0 ∨ nu = 1 ∨ nu = 2 := by omega
      have HF : Hid (∀ W, Calls Try.prog 84 #[.agg #[.int .i64 op, .int .i64 a, .int .i64 b, .slice A t.length c]] W (FormV ⟨nu, le, mo, rd, ra, lv, la⟩ true W)) := Lib.hid hF
      have no : ¬ rightOk ⟨op, a, b, t⟩ → rightF ⟨op, a, b, t⟩ = false := rightF_false.2
      have yes : rightOk ⟨op, a, b, t⟩ → rightF ⟨op, a, b, t⟩ = true := rightF_true.2
      have htX : t = [] ↔ t.length = 0 := List.length_eq_zero_iff.symm
      rcases hnu with rfl | rfl | rfl | rfl
      · by_cases hb : b = 0
        · by_cases ha : a = 0
          · have e : rightF ⟨op, a, b, t⟩ = pairsB op t := by
              by_cases hp : pairsOk op t
              · rw [pairsB_true hp]; exact yes (hr.2 ⟨fun _ => hb, fun _ => ha, fun h => absurd h (by decide), by rw [if_pos (by decide)]; exact hp⟩)
              · rw [pairsB_false hp]; exact no (fun h => hp (by have := (hr.1 h).2.2.2; rwa [if_pos (by decide)] at this))
            rw [e]
            exact right_m_p op a b A t.length c le mo rd ra lv la w HF (bne_f hb) (bne_f ha) _ (Lib.hid fun W hW => (pairs_any op a b A c t W (hT.below hW) hlen).mono fun _ _ h => h)
          · rw [no (fun h => ha ((hr.1 h).2.1 (by decide)))]
            exact right_m_a op a b A t.length c le mo rd ra lv la w HF (bne_f hb) (bne_t ha)
        · rw [no (fun h => hb ((hr.1 h).1 (by decide)))]
          exact right_m_b op a b A t.length c le mo rd ra lv la w HF (bne_t hb)
      · have hop0 : op ≠ 0 := fun e => by have := h0nu (by omega); omega
        by_cases hb : b = 0
        · by_cases ha : a = 0
          · by_cases hX : t = []
            · rw [yes (hr.2 ⟨fun _ => hb, fun _ => ha, fun _ => hX, by rw [if_neg (by decide)]; exact .inr (.inl rfl)⟩)]
              exact right_z_t op a b A t.length c le mo rd ra lv la w HF (bne_f hb) (bne_f ha) (by have := htX.1 hX; omega) (beq_f hop0)
            · rw [no (fun h => hX ((hr.1 h).2.2.1 (by decide)))]
              exact right_z_x op a b A t.length c le mo rd ra lv la w HF (bne_f hb) (bne_f ha) (by have : ¬ t.length = 0 := fun e => hX (htX.2 e); omega)
          · rw [no (fun h => ha ((hr.1 h).2.1 (by decide)))]
            exact right_z_a op a b A t.length c le mo rd ra lv la w HF (bne_f hb) (bne_t ha)
        · rw [no (fun h => hb ((hr.1 h).1 (by decide)))]
          exact right_z_b op a b A t.length c le mo rd ra lv la w HF (bne_t hb)
      · by_cases hb : b = 0
        · by_cases hX : t = []
          · have hX0 : ¬ (0 : Int) < (t.length : Int) := by have := htX.1 hX; omega
            by_cases hop0 : op = 0
            · rw [yes (hr.2 ⟨fun _ => hb, fun h => absurd h (by decide), fun _ => hX, by rw [if_neg (by decide)]; exact .inl hop0⟩)]
              exact right_o_0 op a b A t.length c le mo rd ra lv la w HF (bne_f hb) hX0 (beq_t hop0)
            · by_cases hw : le ≤ a ∧ a ≤ mo
              · rw [yes (hr.2 ⟨fun _ => hb, fun h => absurd h (by decide), fun _ => hX, by rw [if_neg (by decide)]; exact .inr (.inr ⟨hw, by omega⟩)⟩)]
                exact right_o_t op a b A t.length c le mo rd ra lv la w HF (bne_f hb) hX0 (beq_f hop0) (wth_t hw) (wth_t (by omega))
              · rw [no (fun h => by
                  have := (hr.1 h).2.2.2
                  rw [if_neg (by decide)] at this
                  rcases this with h | h | h
                  · exact hop0 h
                  · exact absurd h (by decide)
                  · exact hw h.1)]
                exact right_o_f op a b A t.length c le mo rd ra lv la w HF (bne_f hb) hX0 (beq_f hop0) (wth_f hw)
          · rw [no (fun h => hX ((hr.1 h).2.2.1 (by decide)))]
            exact right_o_x op a b A t.length c le mo rd ra lv la w HF (bne_f hb) (by have : ¬ t.length = 0 := fun e => hX (htX.2 e); omega)
        · rw [no (fun h => hb ((hr.1 h).1 (by decide)))]
          exact right_o_b op a b A t.length c le mo rd ra lv la w HF (bne_t hb)
      · have hop0 : op ≠ 0 := fun e => by have := h0nu (by omega); omega
        by_cases hX : t = []
        · have hX0 : ¬ (0 : Int) < (t.length : Int) := by have := htX.1 hX; omega
          have no2 : ¬ ((le ≤ a ∧ a ≤ mo) ∧ 0 ≤ b ∧ b ≤ 255) → rightF ⟨op, a, b, t⟩ = false := fun hw => no (fun h => by
            have := (hr.1 h).2.2.2
            rw [if_neg (by decide)] at this
            rcases this with h | h | h
            · exact hop0 h
            · exact absurd h (by decide)
            · exact hw h)
          by_cases hw : le ≤ a ∧ a ≤ mo
          · by_cases hv : 0 ≤ b ∧ b ≤ 255
            · rw [yes (hr.2 ⟨fun h => absurd h (by decide), fun h => absurd h (by decide), fun _ => hX, by rw [if_neg (by decide)]; exact .inr (.inr ⟨hw, hv⟩)⟩)]
              exact right_t_t op a b A t.length c le mo rd ra lv la w HF hX0 (beq_f hop0) (wth_t hw) (wth_t hv)
            · rw [no2 (fun h => hv h.2)]
              exact right_t_g op a b A t.length c le mo rd ra lv la w HF hX0 (beq_f hop0) (wth_t hw) (wth_f hv)
          · rw [no2 (fun h => hw h.1)]
            exact right_t_f op a b A t.length c le mo rd ra lv la w HF hX0 (beq_f hop0) (wth_f hw)
        · rw [no (fun h => hX ((hr.1 h).2.2.1 (by decide)))]
          exact right_t_x op a b A t.length c le mo rd ra lv la w HF (by have : ¬ t.length = 0 := fun e => hX (htX.2 e); omega)
  · rw [rightF_false.2 (fun h => hk h.1)]
    exact right_none _ _ _ _ _ _ w hk

/-- An int's answer, beside what lay. -/
def IntV (z : Int) (w : World) (e : Ending) (w' : World) : Prop := e = .returned (.int .i64 z) ∧ Below w.heap.size w w'

set_option maxRecDepth 100000 in
set_option maxHeartbeats 2000000 in
theorem leaves_any (x : InsD) (A : Option Addr) (c : Nat) (w : World) (hT : TabSl w A c x.t) (hlen : x.t.length ≤ 1000000000) :
    Calls Try.prog 47 #[.agg #[.int .i64 x.op, .int .i64 x.a, .int .i64 x.b, .slice A x.t.length c]] w (IntV (leavesF x) w) := by
  have hR := right_any x A c (w.alloc (.cells #[.int .i64 x.op, .int .i64 x.a, .int .i64 x.b, .slice A x.t.length c] 32)) (hT.below (below_one _ _)) hlen
  have HB0 := Lib.hid (below_one w (.cells #[.int .i64 x.op, .int .i64 x.a, .int .i64 x.b, .slice A x.t.length c] 32))
  have B0 : Blk (w.alloc (.cells #[.int .i64 x.op, .int .i64 x.a, .int .i64 x.b, .slice A x.t.length c] 32)) w.heap.size 32 #[.int .i64 x.op, .int .i64 x.a, .int .i64 x.b, .slice A x.t.length c] := Blk.new _ _ _
  have HBX := Lib.hid B0; clear B0
  cases hrt : rightF x with
  | false =>
    have e : leavesF x = 0 := by unfold leavesF; rw [if_neg (by simp [hrt])]
    rw [hrt] at hR
    rw [e]
    have HR := Lib.hid hR
    clear hR e hrt hT
    go_enter Try.func47, Try.ntmps47
    go_wp2_with fail
    refine HR.out.mono ?_
    rintro e w1 ⟨rfl, hb⟩
    have HB := Lib.hid (HB0.out.trans (hb.mono (by simp)))
    clear hb
    go_wp2_with fail
    go_ret
    exact ⟨rfl, HB.out⟩
  | true =>
    have hok := rightF_true.1 hrt
    have hsm := right_small hok
    obtain ⟨k, hop, hk17⟩ := nat_of _ hok.1
    have hlike := formD_like k hk17
    have e : leavesF x = (formD k).lv + (formD k).la * x.a - x.b := by
      unfold leavesF; rw [if_pos hrt, show x.op.toNat = k from by omega]
    have hF := fun W => form_in k hk17 x.a x.b A x.t.length c W
    rw [show x.op.toNat = k from by omega] at hsm
    rw [← hop] at hF
    rw [hrt] at hR
    rw [e]
    cases hfd : formD k with
    | mk nu le mo rd ra lv la =>
      rw [hfd] at hF hsm hlike
      simp only at hsm hlike ⊢
      obtain ⟨op, a, b, t⟩ := x
      simp only at hF hR hsm hlen HB0 HBX hlike ⊢
      have HR := Lib.hid hR; have HF := Lib.hid hF
      have hlv : -1 ≤ lv ∧ lv ≤ 1 := by omega
      have hla : (la = 0) ∨ (la = 1 ∧ 0 ≤ a ∧ a ≤ 65536) ∨ (la = -1 ∧ 0 ≤ a ∧ a ≤ 65536) := by omega
      have hbb := hsm.2
      obtain ⟨X, hX⟩ : ∃ X, X = t.length := ⟨_, rfl⟩
      rw [← hX] at HR HF HB0 HBX ⊢
      clear hR hF e hrt hT hok hsm hfd hlike hop hlen hX
      obtain ⟨hlv1, hlv2⟩ := hlv
      obtain ⟨hb1, hb2⟩ := hbb
      rcases hla with rfl | ⟨rfl, ha1, ha2⟩ | ⟨rfl, ha1, ha2⟩
      all_goals
        go_enter Try.func47, Try.ntmps47
        go_wp2_with fail
        refine HR.out.mono ?_
        rintro e w1 ⟨rfl, hb⟩
        have HB := Lib.hid (HB0.out.trans (hb.mono (by simp)))
        have hz := HB.out.size
        have hbx := HBX.out.below hb (by simp)
        have c0 := hbx.cell 0; have c1 := hbx.cell 1; have c2 := hbx.cell 2; have c3 := hbx.cell 3
        simp at c0 c1 c2 c3
        have HBY := Lib.hid hbx
        clear hb hbx
        go_wp2_with fail
        refine (HF.out _).mono ?_
        rintro e w2 ⟨s, rfl, hb⟩
        have HB2 := Lib.hid (HB.out.trans (hb.mono hz))
        have hz2 := HB2.out.size
        have hby := HBY.out.below hb HBY.out.lt
        have hlt := hby.lt
        have d1 := hby.cell 1; have d2 := hby.cell 2
        simp at d1 d2
        clear hb hby c0 c1 c2 c3
        go_wp2_with fail
        go_ret
        exact ⟨ret_int (by omega), HB2.out.alloc hz2 _⟩

set_option maxRecDepth 100000 in
set_option maxHeartbeats 2000000 in
theorem reads_any (x : InsD) (A : Option Addr) (c : Nat) (w : World) (hT : TabSl w A c x.t) (hlen : x.t.length ≤ 1000000000) :
    Calls Try.prog 82 #[.agg #[.int .i64 x.op, .int .i64 x.a, .int .i64 x.b, .slice A x.t.length c]] w (IntV (readsF x) w) := by
  have hR := right_any x A c (w.alloc (.cells #[.int .i64 x.op, .int .i64 x.a, .int .i64 x.b, .slice A x.t.length c] 32)) (hT.below (below_one _ _)) hlen
  have HB0 := Lib.hid (below_one w (.cells #[.int .i64 x.op, .int .i64 x.a, .int .i64 x.b, .slice A x.t.length c] 32))
  have B0 : Blk (w.alloc (.cells #[.int .i64 x.op, .int .i64 x.a, .int .i64 x.b, .slice A x.t.length c] 32)) w.heap.size 32 #[.int .i64 x.op, .int .i64 x.a, .int .i64 x.b, .slice A x.t.length c] := Blk.new _ _ _
  have HBX := Lib.hid B0; clear B0
  cases hrt : rightF x with
  | false =>
    have e : readsF x = 0 := by unfold readsF; rw [if_neg (by simp [hrt])]
    rw [hrt] at hR
    rw [e]
    have HR := Lib.hid hR
    clear hR e hrt hT
    go_enter Try.func82, Try.ntmps82
    go_wp2_with fail
    refine HR.out.mono ?_
    rintro e w1 ⟨rfl, hb⟩
    have HB := Lib.hid (HB0.out.trans (hb.mono (by simp)))
    clear hb
    go_wp2_with fail
    go_ret
    exact ⟨rfl, HB.out⟩
  | true =>
    have hok := rightF_true.1 hrt
    have hsm := right_small hok
    obtain ⟨k, hop, hk17⟩ := nat_of _ hok.1
    have hlike := formD_like k hk17
    have e : readsF x = (formD k).rd + (formD k).ra * x.a + x.b := by
      unfold readsF; rw [if_pos hrt, show x.op.toNat = k from by omega]
    have hF := fun W => form_in k hk17 x.a x.b A x.t.length c W
    rw [show x.op.toNat = k from by omega] at hsm
    rw [← hop] at hF
    rw [hrt] at hR
    rw [e]
    cases hfd : formD k with
    | mk nu le mo rd ra lv la =>
      rw [hfd] at hF hsm hlike
      simp only at hsm hlike ⊢
      obtain ⟨op, a, b, t⟩ := x
      simp only at hF hR hsm hlen HB0 HBX hlike ⊢
      have HR := Lib.hid hR; have HF := Lib.hid hF
      have hlv : 0 ≤ rd ∧ rd ≤ 2 := by omega
      have hla : (ra = 0) ∨ (ra = 1 ∧ 0 ≤ a ∧ a ≤ 65536) := by omega
      have hbb := hsm.2
      obtain ⟨X, hX⟩ : ∃ X, X = t.length := ⟨_, rfl⟩
      rw [← hX] at HR HF HB0 HBX ⊢
      clear hR hF e hrt hT hok hsm hfd hlike hop hlen hX
      obtain ⟨hlv1, hlv2⟩ := hlv
      obtain ⟨hb1, hb2⟩ := hbb
      rcases hla with rfl | ⟨rfl, ha1, ha2⟩
      all_goals
        go_enter Try.func82, Try.ntmps82
        go_wp2_with fail
        refine HR.out.mono ?_
        rintro e w1 ⟨rfl, hb⟩
        have HB := Lib.hid (HB0.out.trans (hb.mono (by simp)))
        have hz := HB.out.size
        have hbx := HBX.out.below hb (by simp)
        have c0 := hbx.cell 0; have c1 := hbx.cell 1; have c2 := hbx.cell 2; have c3 := hbx.cell 3
        simp at c0 c1 c2 c3
        have HBY := Lib.hid hbx
        clear hb hbx
        go_wp2_with fail
        refine (HF.out _).mono ?_
        rintro e w2 ⟨s, rfl, hb⟩
        have HB2 := Lib.hid (HB.out.trans (hb.mono hz))
        have hz2 := HB2.out.size
        have hby := HBY.out.below hb HBY.out.lt
        have hlt := hby.lt
        have d1 := hby.cell 1; have d2 := hby.cell 2
        simp at d1 d2
        clear hb hby c0 c1 c2 c3
        go_wp2_with fail
        go_ret
        exact ⟨ret_int (by omega), HB2.out.alloc hz2 _⟩
end Go.Proofs.Ytfeghobfkgimfaa
