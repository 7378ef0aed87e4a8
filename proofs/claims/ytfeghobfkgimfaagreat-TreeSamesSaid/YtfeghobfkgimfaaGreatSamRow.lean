/- TreeSames: the given statement, for every input. -/
import Derived.Test.YtfeghobfkgimfaaGreatSamA
import Derived.Test.YtfeghobfkgimfaaGreatOpnB
import Derived.OpenShut
import Derived.JoinedCond
import Derived.Test.YtfeghobfkgimfaaGreatPostB
namespace Go.Proofs.YtfeghobfkgimfaaGreat
set_option linter.unusedSimpArgs false
set_option linter.unusedVariables false
open Go.ChangeShapes Go.WideShapes Go.ChangeAt Go.RowKit

set_option maxRecDepth 100000 in
theorem treeSames_lifted (os : Os) (started : os.Started) (H : Type) (enc : TypeId × Value → H) :
    ReturnsInHanded {} Tryz.checked os 3 .any (Rows.treeSamesSpec.pre6 enc Tryz.prog Tryz.f3 Rows.treeSamesRow.domain false) (Rows.treeSamesSpec.post enc Tryz.prog Tryz.f3 false true false false) := by
  refine returnsInHanded_of_change_sized (C := Tryz.checked) Tryz.ownK started (by kernel_rfl) Tryz.func3
    (ChangeSpec.witness6 (enc := enc) (C := Tryz.checked) false ⟨#[], #[.agg #[.int .i64 0, .int .i64 0, .string { data := #[] }, .slice none 0 0], .agg #[.int .i64 0, .int .i64 0, .string { data := #[] }, .slice none 0 0], .agg #[.int .i64 0, .int .i64 0, .string { data := #[] }, .int .i64 0, .slice none 0 0, .slice none 0 0, .slice none 0 0, .slice none 0 0], .agg #[.int .i64 0, .int .i64 0, .string { data := #[] }, .int .i64 0, .slice none 0 0, .slice none 0 0, .slice none 0 0, .slice none 0 0], .slice none 0 0, .slice none 0 0], []⟩ 8 (by kernel_rfl) (by kernel_rfl) (by kernel_rfl) (by kernel_rfl)) ?_
  intro W base args ds gs before hval0 hW hcnd hsz0 _
  have hval : ∀ (j : Nat) t v, Tryz.f3.params[j]? = some t → args[j]? = some v → Value.okWide Tryz.prog W .any base t v := hval0
  have hW' := hW
  obtain ⟨p, q, hA0, hV, rfl, hfz, hnd⟩ := hW
  have hA : DataW.TrodAll enc Tryz.prog W 0 (fun _ => true) true Tryz.f3.params.toList args.toList ds p := hA0
  have hsz : (DataW.weightsEach Tryz.prog (Tryz.f3.params.toList ++ Rows.treeSamesSpec.plain.varTypes Tryz.prog) (ds ++ gs)).all (· ≤ reachBytes) = true := hsz0
  rw [Tryz.params3] at hA hval hsz
  obtain ⟨v0, vs0, d0, ds0, p0, q0, hargs, rfl, rfl, h0, r0⟩ := trodAll_cons hA
  obtain ⟨v1, vs1, d1, ds1, p1, q1, rfl, rfl, rfl, h1, r1⟩ := trodAll_cons r0
  obtain ⟨v2, vs2, d2, ds2, p2, q2, rfl, rfl, rfl, h2, r2⟩ := trodAll_cons r1
  obtain ⟨v3, vs3, d3, ds3, p3, q3, rfl, rfl, rfl, h3, r3⟩ := trodAll_cons r2
  obtain ⟨v4, vs4, d4, ds4, p4, q4, rfl, rfl, rfl, h4, r4⟩ := trodAll_cons r3
  obtain ⟨v5, vs5, d5, ds5, p5, q5, rfl, rfl, rfl, h5, r5⟩ := trodAll_cons r4
  obtain ⟨rfl, rfl, rfl⟩ := trodAll_nil r5
  obtain rfl : args = #[v0, v1, v2, v3, v4, v5] := by cases args; simp_all
  obtain ⟨rfl, rfl⟩ := trodVars_none hV
  have z0 : Szd Tryz.prog 24 d0 := szd_each hsz 0 24 d0 rfl rfl
  have z1 : Szd Tryz.prog 24 d1 := szd_each hsz 1 24 d1 rfl rfl
  have z2 : Szd Tryz.prog 30 d2 := szd_each hsz 2 30 d2 rfl rfl
  have z3 : Szd Tryz.prog 30 d3 := szd_each hsz 3 30 d3 rfl rfl
  have z4 : Szd Tryz.prog 28 d4 := szd_each hsz 4 28 d4 rfl rfl
  have z5 : Szd Tryz.prog 28 d5 := szd_each hsz 5 28 d5 rfl rfl
  have h0k := h0; have h1k := h1; have h2k := h2; have h3k := h3; have h4k := h4; have h5k := h5
  obtain ⟨T, tc, rfl, hT⟩ := open_ty (hval 0 24 v0 rfl rfl) h0 z0
  obtain ⟨U, uc, rfl, hU⟩ := open_ty (hval 1 24 v1 rfl rfl) h1 z1
  obtain ⟨Ee, ec, rfl, hE⟩ := open_ex (hval 2 30 v2 rfl rfl) h2 z2
  obtain ⟨Ff, fc, rfl, hF⟩ := open_ex (hval 3 30 v3 rfl rfl) h3 z3
  obtain ⟨L, hL⟩ := open_des (hval 4 28 v4 rfl rfl) h4 z4
  obtain ⟨M, hM⟩ := open_des (hval 5 28 v5 rfl rfl) h5 z5
  clear hA0 hval0
  simp only [List.append_nil] at hW'
  have hlt : ∀ x ∈ p0 ++ (p1 ++ (p2 ++ (p3 ++ (p4 ++ p5)))), x.block < W.heap.size := fun x hx => hW'.lt x (by simpa using hx)
  refine (sames_any T U Ee Ff L M tc uc ec fc v4 v5 W hT hU hE hF hL hM).mono fun e W' ⟨he, hb⟩ => ?_
  subst he
  refine ⟨_, rfl, post_of_below (pa := p0 ++ (p1 ++ (p2 ++ (p3 ++ (p4 ++ p5))))) (pv := []) hW' (fun _ _ _ => trodAll_mk1 (shut_bool Tryz.underlying4 true)) (fun sp hsp => ?_) (fun _ _ => rfl) (by simp) hb (ok_one (by kernel_rfl) rfl (okWide_bool_mk Tryz.underlying4 true))⟩
  have s0 : DataW.Trod enc Tryz.prog W' 0 sp true 24 (.agg tc.toArray) d0 p0 := WideElems.Trod_stays Tryz.laidOut (by kernel_rfl) (of_decide_eq_true (by kernel_rfl)) h0k (fun x hx => hb.same (hlt x (by simp [hx]))) (fun x hx => hsp x (by simp [hx]))
  have s1 : DataW.Trod enc Tryz.prog W' 0 sp true 24 (.agg uc.toArray) d1 p1 := WideElems.Trod_stays Tryz.laidOut (by kernel_rfl) (of_decide_eq_true (by kernel_rfl)) h1k (fun x hx => hb.same (hlt x (by simp [hx]))) (fun x hx => hsp x (by simp [hx]))
  have s2 : DataW.Trod enc Tryz.prog W' 0 sp true 30 (.agg ec.toArray) d2 p2 := WideElems.Trod_stays Tryz.laidOut (by kernel_rfl) (of_decide_eq_true (by kernel_rfl)) h2k (fun x hx => hb.same (hlt x (by simp [hx]))) (fun x hx => hsp x (by simp [hx]))
  have s3 : DataW.Trod enc Tryz.prog W' 0 sp true 30 (.agg fc.toArray) d3 p3 := WideElems.Trod_stays Tryz.laidOut (by kernel_rfl) (of_decide_eq_true (by kernel_rfl)) h3k (fun x hx => hb.same (hlt x (by simp [hx]))) (fun x hx => hsp x (by simp [hx]))
  have s4 : DataW.Trod enc Tryz.prog W' 0 sp true 28 (v4) d4 p4 := WideElems.Trod_stays Tryz.laidOut (by kernel_rfl) (of_decide_eq_true (by kernel_rfl)) h4k (fun x hx => hb.same (hlt x (by simp [hx]))) (fun x hx => hsp x (by simp [hx]))
  have s5 : DataW.Trod enc Tryz.prog W' 0 sp true 28 (v5) d5 p5 := WideElems.Trod_stays Tryz.laidOut (by kernel_rfl) (of_decide_eq_true (by kernel_rfl)) h5k (fun x hx => hb.same (hlt x (by simp [hx]))) (fun x hx => hsp x (by simp [hx]))
  exact ⟨p0, _, s0, ⟨p1, _, s1, ⟨p2, _, s2, ⟨p3, _, s3, ⟨p4, p5, s4, trodAll_mk1 s5, rfl⟩, rfl⟩, rfl⟩, rfl⟩, rfl⟩

theorem TreeSames_holds : Rows.TreeSamesSaid :=
  OpenClaim.holds_of_wide 3 Tryz.f3 rfl rfl rfl rfl rfl rfl rfl ⟨rfl, rfl, rfl, rfl, rfl⟩ rfl rfl rfl rfl rfl (by kernel_rfl) Tryz.func3 (by kernel_rfl)
    (of_decide_eq_true (by kernel_rfl)) (by unfold Func.isWrapper; first | (rw [if_pos (by decide +kernel)]; kernel_rfl) | (rw [if_neg (by decide +kernel)]; exact ⟨rfl, rfl⟩))
    (fun os started H enc _ => treeSames_lifted os started H enc)
#print axioms TreeSames_holds
end Go.Proofs.YtfeghobfkgimfaaGreat
