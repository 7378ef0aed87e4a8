/- CheckMoved: the given statement, for every input. -/
import Derived.Test.YtfeghobfkgimfaaMovedW
import Derived.Test.YtfeghobfkgimfaaOpenCode
import Derived.OpenShut
import Derived.JoinedCond
import Derived.Test.YtfeghobfkgimfaaPostB
namespace Go.Proofs.Ytfeghobfkgimfaa
open Go.ChangeShapes Go.WideShapes Go.ChangeAt Go.RowKit

set_option maxRecDepth 100000 in
theorem checkMoved_lifted (os : Os) (started : os.Started) (H : Type) (enc : TypeId × Value → H) :
    ReturnsInHanded {} Try.checked os 4 .any (Rows.checkMovedSpec.pre6 enc Try.prog Try.f4 Rows.checkMovedRow.domain false) (Rows.checkMovedSpec.post enc Try.prog Try.f4 false true false false) := by
  refine returnsInHanded_of_change_sized (C := Try.checked) Try.ownK started (by kernel_rfl) Try.func4
    (ChangeSpec.witness6 (enc := enc) (C := Try.checked) false ⟨#[], #[.agg #[.slice none 0 0, .slice none 0 0], .agg #[.slice none 0 0, .slice none 0 0]], []⟩ 8 (by kernel_rfl) (by kernel_rfl) (by kernel_rfl) (by kernel_rfl)) ?_
  intro W base args ds gs before hval0 hW hcnd hsz0 _
  have hval : ∀ (j : Nat) t v, Try.f4.params[j]? = some t → args[j]? = some v → Value.okWide Try.prog W .any base t v := hval0
  have hW' := hW
  obtain ⟨p, q, hA0, hV, rfl, hfz, hnd⟩ := hW
  have hA : DataW.TrodAll enc Try.prog W 0 (fun _ => true) true Try.f4.params.toList args.toList ds p := hA0
  have hsz : (DataW.weightsEach Try.prog (Try.f4.params.toList ++ Rows.checkMovedSpec.plain.varTypes Try.prog) (ds ++ gs)).all (· ≤ reachBytes) = true := hsz0
  rw [Try.params4] at hA hval hsz
  obtain ⟨v0, vs0, d0, ds0, p0, q0, hargs, rfl, rfl, h0, r0⟩ := trodAll_cons hA
  obtain ⟨v1, vs1, d1, ds1, p1, q1, rfl, rfl, rfl, h1, r1⟩ := trodAll_cons r0
  obtain ⟨rfl, rfl, rfl⟩ := trodAll_nil r1
  obtain rfl : args = #[v0, v1] := by cases args; simp_all
  obtain ⟨rfl, rfl⟩ := trodVars_none hV
  have h0k := h0; have h1k := h1
  have z0 : Szd Try.prog 39 d0 := szd_each hsz 0 39 d0 rfl rfl
  have z1 : Szd Try.prog 39 d1 := szd_each hsz 1 39 d1 rfl rfl
  obtain ⟨A, G1, I1, gc1, ic1, rfl, hA1, hRA⟩ := open_code (hval 0 39 v0 rfl rfl) h0 z0
  obtain ⟨B, G2, I2, gc2, ic2, rfl, hB1, hRB⟩ := open_code (hval 1 39 v1 rfl rfl) h1 z1
  clear hA0 hval0
  simp only [List.append_nil] at hW'
  have hlt : ∀ x ∈ p0 ++ p1, x.block < W.heap.size := fun x hx => hW'.lt x (by simpa using hx)
  refine (moved_any A B G1 I1 G2 I2 gc1 ic1 gc2 ic2 W hA1 hRA hB1 hRB).mono fun e W' ⟨he, hb⟩ => ?_
  subst he
  refine ⟨_, rfl, post_of_below (pa := p0 ++ p1) (pv := []) hW' (fun _ _ _ => trodAll_mk1 (shut_bool Try.underlying4 true)) (fun sp hsp => ?_) (fun _ _ => rfl) (by simp) hb (ok_one (by kernel_rfl) rfl (okWide_bool_mk Try.underlying4 true))⟩
  have s0 : DataW.Trod enc Try.prog W' 0 sp true 39 (.agg #[.slice G1 A.gl gc1, .slice I1 A.ni ic1]) d0 p0 := WideElems.Trod_stays Try.laidOut (by kernel_rfl) (of_decide_eq_true (by kernel_rfl)) h0k (fun x hx => hb.same (hlt x (by simp [hx]))) (fun x hx => hsp x (by simp [hx]))
  have s1 : DataW.Trod enc Try.prog W' 0 sp true 39 (.agg #[.slice G2 B.gl gc2, .slice I2 B.ni ic2]) d1 p1 := WideElems.Trod_stays Try.laidOut (by kernel_rfl) (of_decide_eq_true (by kernel_rfl)) h1k (fun x hx => hb.same (hlt x (by simp [hx]))) (fun x hx => hsp x (by simp [hx]))
  exact ⟨p0, p1, s0, trodAll_mk1 s1, rfl⟩

theorem CheckMoved_holds : Rows.CheckMovedSaid :=
  OpenClaim.holds_of_wide 4 Try.f4 rfl rfl rfl rfl rfl rfl rfl ⟨rfl, rfl, rfl, rfl, rfl⟩ rfl rfl rfl rfl rfl (by kernel_rfl) Try.func4 (by kernel_rfl)
    (of_decide_eq_true (by kernel_rfl)) (by unfold Func.isWrapper; first | (rw [if_pos (by decide +kernel)]; kernel_rfl) | (rw [if_neg (by decide +kernel)]; exact ⟨rfl, rfl⟩))
    (fun os started H enc _ => checkMoved_lifted os started H enc)
#print axioms CheckMoved_holds
end Go.Proofs.Ytfeghobfkgimfaa
