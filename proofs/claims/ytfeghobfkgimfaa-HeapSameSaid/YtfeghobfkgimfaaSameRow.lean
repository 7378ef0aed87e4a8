/- HeapSame: the given statement. -/
import Derived.Test.YtfeghobfkgimfaaSameW
import Derived.Test.YtfeghobfkgimfaaOpenAct
import Derived.Test.YtfeghobfkgimfaaPostB
namespace Go.Proofs.Ytfeghobfkgimfaa
open Go.ChangeShapes Go.WideShapes Go.ChangeAt Go.RowKit

theorem isl_of {w : World} {A : Option Addr} {cap : Nat} {xs : List Int} (h : SlI w A cap xs) : IntSl (fun _ => False) w A cap xs := by
  refine ⟨h.1, fun h0 => ?_⟩
  obtain ⟨a, ha, hl, hc⟩ := h.2 h0
  have hz := cell_lt (hc 0 h0)
  obtain ⟨g, o, s⟩ := a
  have hs : s = none := by simpa [Addr.add] using hz.2
  subst hs
  exact ⟨g, o, ha, hl, id, fun j hj => by rw [← add_plain]; exact hc j hj⟩

set_option maxRecDepth 100000 in
theorem heapSame_lifted (os : Os) (started : os.Started) (H : Type) (enc : TypeId × Value → H) :
    ReturnsInHanded {} Try.checked os 6 .any (Rows.heapSameSpec.pre6 enc Try.prog Try.f6 Rows.heapSameRow.domain false) (Rows.heapSameSpec.post enc Try.prog Try.f6 false true false false) := by
  refine returnsInHanded_of_change (C := Try.checked) Try.ownK started (by kernel_rfl) Try.func6
    (ChangeSpec.witness6 (enc := enc) (C := Try.checked) false ⟨#[], #[.int .i64 0, .slice none 0 0, .slice none 0 0], []⟩ 8 (by kernel_rfl) (by kernel_rfl) (by kernel_rfl) (by kernel_rfl)) ?_
  intro W base args ds gs before hval0 hW hcnd _
  have hval : ∀ (j : Nat) t v, Try.f6.params[j]? = some t → args[j]? = some v → Value.okWide Try.prog W .any base t v := hval0
  have hW' := hW
  obtain ⟨p, q, hA0, hV, rfl, hfz, hnd⟩ := hW
  have hA : DataW.TrodAll enc Try.prog W 0 (fun _ => true) true Try.f6.params.toList args.toList ds p := hA0
  rw [Try.params6] at hA hval
  obtain ⟨v0, vs0, d0, ds0, p0, q0, hargs, rfl, rfl, h0, r0⟩ := trodAll_cons hA
  obtain ⟨v1, vs1, d1, ds1, p1, q1, rfl, rfl, rfl, h1, r1⟩ := trodAll_cons r0
  obtain ⟨v2, vs2, d2, ds2, p2, q2, rfl, rfl, rfl, h2, r2⟩ := trodAll_cons r1
  obtain ⟨rfl, rfl, rfl⟩ := trodAll_nil r2
  obtain rfl : args = #[v0, v1, v2] := by cases args; simp_all
  obtain ⟨rfl, rfl⟩ := trodVars_none hV
  have h1k := h1; have h2k := h2
  obtain ⟨z, rfl, rfl, rfl, wz⟩ := open_int Try.underlying3 (hval 0 3 v0 rfl rfl) h0
  obtain ⟨A, cap, l, rfl, hacts⟩ := open_acts (hval 1 48 v1 rfl rfl) h1
  obtain ⟨A2, n2, cap2, rfl⟩ := okWide_slice Try.underlying22 (hval 2 22 v2 rfl rfl)
  obtain ⟨fuel, hf⟩ := h2
  obtain ⟨A3, n3, cap3, xs, he, hn, hnm, hsl, _⟩ := ints_cells (c := .slice A2 n2 cap2) hf
  injection he with e1 e2 e3
  subst e1 e2 e3
  subst hn
  clear hA0 hval0
  simp only [List.append_nil, List.nil_append] at hW'
  have hlt : ∀ x ∈ p1 ++ p2, x.block < W.heap.size := fun x hx => hW'.lt x (by simpa using hx)
  refine (same_any z A cap l A2 cap2 xs W hacts (isl_of hsl) hnm).mono fun e W' ⟨he, hb⟩ => ?_
  subst he
  refine ⟨_, rfl, post_of_below (pa := p1 ++ p2) (pv := []) hW' (fun _ _ _ => trodAll_mk1 (shut_bool Try.underlying4 true)) (fun sp hsp => ?_) (fun _ _ => rfl) (by simp) hb (ok_one (by kernel_rfl) rfl (okWide_bool_mk Try.underlying4 true))⟩
  have s1 : DataW.Trod enc Try.prog W' 0 sp true 48 (.slice A l.length cap) d1 p1 := WideElems.Trod_stays Try.laidOut (by kernel_rfl) (of_decide_eq_true (by kernel_rfl)) h1k (fun x hx => hb.same (hlt x (by simp [hx]))) (fun x hx => hsp x (by simp [hx]))
  have s2 : DataW.Trod enc Try.prog W' 0 sp true 22 (.slice A2 xs.length cap2) d2 p2 := WideElems.Trod_stays Try.laidOut (by kernel_rfl) (of_decide_eq_true (by kernel_rfl)) h2k (fun x hx => hb.same (hlt x (by simp [hx]))) (fun x hx => hsp x (by simp [hx]))
  exact ⟨[], p1 ++ p2, shut_int Try.underlying3 wz, ⟨p1, p2, s1, trodAll_mk1 s2, rfl⟩, rfl⟩

theorem HeapSame_holds : Rows.HeapSameSaid :=
  OpenClaim.holds_of_wide 6 Try.f6 rfl rfl rfl rfl rfl rfl rfl ⟨rfl, rfl, rfl, rfl, rfl⟩ rfl rfl rfl rfl rfl (by kernel_rfl) Try.func6 (by kernel_rfl)
    (of_decide_eq_true (by kernel_rfl)) (by unfold Func.isWrapper; first | (rw [if_pos (by decide +kernel)]; kernel_rfl) | (rw [if_neg (by decide +kernel)]; exact ⟨rfl, rfl⟩))
    (fun os started H enc _ => heapSame_lifted os started H enc)
#print axioms HeapSame_holds
end Go.Proofs.Ytfeghobfkgimfaa
