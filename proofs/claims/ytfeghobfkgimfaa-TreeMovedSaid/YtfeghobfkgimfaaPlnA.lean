/- Trees without their places: what is the same, how many, how deep, what may be: none of it looks at a place. Plain. -/
import Derived.Test.YtfeghobfkgimfaaRigD
namespace Go.Proofs.Ytfeghobfkgimfaa
set_option linter.unusedSimpArgs false
set_option linter.unusedVariables false

mutual
def sTy : Ty → Ty
  | .mk k _ s l => .mk k 0 s (sTys l)
def sTys : List Ty → List Ty
  | [] => []
  | t :: l => sTy t :: sTys l
end
mutual
def sPt : Pt → Pt
  | .mk k _ s n l => .mk k 0 s n (sPts l)
def sPts : List Pt → List Pt
  | [] => []
  | t :: l => sPt t :: sPts l
end
def sCo (c : Co) : Co := ⟨0, c.name, sTys c.args⟩
def sCos : List Co → List Co
  | [] => []
  | t :: l => sCo t :: sCos l
mutual
def sEx : Ex → Ex
  | .mk k _ s n args pats alts decls => .mk k 0 s n (sExs args) (sPts pats) (sAls alts) (sDes decls)
def sExs : List Ex → List Ex
  | [] => []
  | e :: l => sEx e :: sExs l
def sAls : List Al → List Al
  | [] => []
  | .mk p b :: l => .mk (sPt p) (sEx b) :: sAls l
def sDes : List De → List De
  | [] => []
  | .mk k _ s vars cons ty pats body :: l => .mk k 0 s vars (sCos cons) (sTy ty) (sPts pats) (sEx body) :: sDes l
end
theorem eqS_iff (s t : ByteArray) : eqS s t = true ↔ s = t := by
  unfold eqS
  rw [beq_iff_eq]
  constructor
  · intro h
    rw [ByteArray.toList_eq, ByteArray.toList_eq] at h
    cases s; cases t
    simp at h
    rw [h]
  · intro h; rw [h]
theorem sameStrs_iff (l : List ByteArray) : ∀ l', sameStrs l l' = true ↔ l = l' := by
  induction l with
  | nil => intro l'; cases l' <;> simp [sameStrs]
  | cons x l ih => intro l'; cases l' with
    | nil => simp [sameStrs]
    | cons y l' => simp only [sameStrs, Bool.and_eq_true, eqS_iff, ih, List.cons.injEq]
theorem ty_iff (n : Nat) : (∀ (x y : Ty), SizeOf.sizeOf x < n → (sameTy x y = true ↔ sTy x = sTy y)) ∧ (∀ (l l' : List Ty), SizeOf.sizeOf l < n → (sameTys l l' = true ↔ sTys l = sTys l')) := by
  induction n with
  | zero => exact ⟨fun _ _ h => by omega, fun _ _ h => by omega⟩
  | succ n ih =>
    obtain ⟨i1, i2⟩ := ih
    refine ⟨fun x y h => ?_, fun l l' h => ?_⟩
    · obtain ⟨k, a, s, l⟩ := x; obtain ⟨k', a', s', l'⟩ := y
      simp at h
      rw [sameTy, sTy, sTy]
      simp only [Bool.and_eq_true, beq_iff_eq, eqS_iff, i2 l l' (by omega), Ty.mk.injEq, true_and, and_assoc]
    · cases l with
      | nil => cases l' <;> simp [sameTys, sTys]
      | cons x l => cases l' with
        | nil => simp [sameTys, sTys]
        | cons y l' =>
          simp at h
          rw [sameTys, sTys, sTys]
          simp only [Bool.and_eq_true, i1 x y (by omega), i2 l l' (by omega), List.cons.injEq]
theorem sameTy_iff (x y : Ty) : sameTy x y = true ↔ sTy x = sTy y := (ty_iff _).1 x y (Nat.lt_succ_self _)
theorem sameTys_iff (l l' : List Ty) : sameTys l l' = true ↔ sTys l = sTys l' := (ty_iff _).2 l l' (Nat.lt_succ_self _)
theorem pt_iff (n : Nat) : (∀ (x y : Pt), SizeOf.sizeOf x < n → (samePt x y = true ↔ sPt x = sPt y)) ∧ (∀ (l l' : List Pt), SizeOf.sizeOf l < n → (samePts l l' = true ↔ sPts l = sPts l')) := by
  induction n with
  | zero => exact ⟨fun _ _ h => by omega, fun _ _ h => by omega⟩
  | succ n ih =>
    obtain ⟨i1, i2⟩ := ih
    refine ⟨fun x y h => ?_, fun l l' h => ?_⟩
    · obtain ⟨k, a, s, m, l⟩ := x; obtain ⟨k', a', s', m', l'⟩ := y
      simp at h
      rw [samePt, sPt, sPt]
      simp only [Bool.and_eq_true, beq_iff_eq, eqS_iff, i2 l l' (by omega), Pt.mk.injEq, true_and, and_assoc]
    · cases l with
      | nil => cases l' <;> simp [samePts, sPts]
      | cons x l => cases l' with
        | nil => simp [samePts, sPts]
        | cons y l' =>
          simp at h
          rw [samePts, sPts, sPts]
          simp only [Bool.and_eq_true, i1 x y (by omega), i2 l l' (by omega), List.cons.injEq]
theorem samePt_iff (x y : Pt) : samePt x y = true ↔ sPt x = sPt y := (pt_iff _).1 x y (Nat.lt_succ_self _)
theorem samePts_iff (l l' : List Pt) : samePts l l' = true ↔ sPts l = sPts l' := (pt_iff _).2 l l' (Nat.lt_succ_self _)
theorem sameCos_iff (l : List Co) : ∀ l', sameCos l l' = true ↔ sCos l = sCos l' := by
  induction l with
  | nil => intro l'; cases l' <;> simp [sameCos, sCos]
  | cons x l ih => intro l'; cases l' with
    | nil => simp [sameCos, sCos]
    | cons y l' => simp only [sameCos, sameCo, sCos, sCo, Bool.and_eq_true, eqS_iff, sameTys_iff, ih, List.cons.injEq, Co.mk.injEq, true_and]
theorem ex_iff (n : Nat) : (∀ (x y : Ex), SizeOf.sizeOf x < n → (sameEx x y = true ↔ sEx x = sEx y)) ∧ (∀ (l l' : List Ex), SizeOf.sizeOf l < n → (sameExs l l' = true ↔ sExs l = sExs l')) ∧
    (∀ (l l' : List Al), SizeOf.sizeOf l < n → (sameAls l l' = true ↔ sAls l = sAls l')) ∧ (∀ (l l' : List De), SizeOf.sizeOf l < n → (sameDes l l' = true ↔ sDes l = sDes l')) := by
  induction n with
  | zero => exact ⟨fun _ _ h => by omega, fun _ _ h => by omega, fun _ _ h => by omega, fun _ _ h => by omega⟩
  | succ n ih =>
    obtain ⟨i1, i2, i3, i4⟩ := ih
    refine ⟨fun x y h => ?_, fun l l' h => ?_, fun l l' h => ?_, fun l l' h => ?_⟩
    · obtain ⟨k, a, s, m, args, pats, alts, decls⟩ := x; obtain ⟨k', a', s', m', args', pats', alts', decls'⟩ := y
      simp at h
      rw [sameEx, sEx, sEx]
      simp only [Bool.and_eq_true, beq_iff_eq, eqS_iff, i2 args args' (by omega), samePts_iff, i3 alts alts' (by omega), i4 decls decls' (by omega), Ex.mk.injEq, true_and, and_assoc]
    · cases l with
      | nil => cases l' <;> simp [sameExs, sExs]
      | cons x l => cases l' with
        | nil => simp [sameExs, sExs]
        | cons y l' =>
          simp at h
          rw [sameExs, sExs, sExs]
          simp only [Bool.and_eq_true, i1 x y (by omega), i2 l l' (by omega), List.cons.injEq]
    · cases l with
      | nil => cases l' with
        | nil => simp [sameAls, sAls]
        | cons y l' => obtain ⟨p, b⟩ := y; simp [sameAls, sAls]
      | cons x l =>
        obtain ⟨p, b⟩ := x
        cases l' with
        | nil => simp [sameAls, sAls]
        | cons y l' =>
          obtain ⟨p', b'⟩ := y
          simp at h
          rw [sameAls, sAls, sAls, sameAl]
          simp only [Bool.and_eq_true, samePt_iff, i1 b b' (by omega), i3 l l' (by omega), List.cons.injEq, Al.mk.injEq]
    · cases l with
      | nil => cases l' with
        | nil => simp [sameDes, sDes]
        | cons y l' => obtain ⟨k', a', s', vars', cons', ty', pats', b'⟩ := y; simp [sameDes, sDes]
      | cons x l =>
        obtain ⟨k, a, s, vars, cons, ty, pats, b⟩ := x
        cases l' with
        | nil => simp [sameDes, sDes]
        | cons y l' =>
          obtain ⟨k', a', s', vars', cons', ty', pats', b'⟩ := y
          simp at h
          rw [sameDes, sDes, sDes, sameDe]
          simp only [Bool.and_eq_true, beq_iff_eq, eqS_iff, sameStrs_iff, sameCos_iff, sameTy_iff, samePts_iff, i1 b b' (by omega), i4 l l' (by omega), List.cons.injEq, De.mk.injEq, true_and, and_assoc]
theorem sameEx_iff (x y : Ex) : sameEx x y = true ↔ sEx x = sEx y := (ex_iff _).1 x y (Nat.lt_succ_self _)

/-- No place twice taken away. -/
theorem ty_idem (n : Nat) : (∀ (x : Ty), SizeOf.sizeOf x < n → sTy (sTy x) = sTy x) ∧ (∀ (l : List Ty), SizeOf.sizeOf l < n → sTys (sTys l) = sTys l) := by
  induction n with
  | zero => exact ⟨fun _ h => by omega, fun _ h => by omega⟩
  | succ n ih =>
    obtain ⟨i1, i2⟩ := ih
    refine ⟨fun x h => ?_, fun l h => ?_⟩
    · obtain ⟨k, a, s, l⟩ := x
      simp at h
      rw [sTy, sTy, i2 l (by omega)]
    · cases l with
      | nil => rfl
      | cons x l => simp at h; rw [sTys, sTys, i1 x (by omega), i2 l (by omega)]
theorem sTy_idem (x : Ty) : sTy (sTy x) = sTy x := (ty_idem _).1 x (Nat.lt_succ_self _)
theorem sTys_idem (x : List Ty) : sTys (sTys x) = sTys x := (ty_idem _).2 x (Nat.lt_succ_self _)
theorem pt_idem (n : Nat) : (∀ (x : Pt), SizeOf.sizeOf x < n → sPt (sPt x) = sPt x) ∧ (∀ (l : List Pt), SizeOf.sizeOf l < n → sPts (sPts l) = sPts l) := by
  induction n with
  | zero => exact ⟨fun _ h => by omega, fun _ h => by omega⟩
  | succ n ih =>
    obtain ⟨i1, i2⟩ := ih
    refine ⟨fun x h => ?_, fun l h => ?_⟩
    · obtain ⟨k, a, s, m, l⟩ := x
      simp at h
      rw [sPt, sPt, i2 l (by omega)]
    · cases l with
      | nil => rfl
      | cons x l => simp at h; rw [sPts, sPts, i1 x (by omega), i2 l (by omega)]
theorem sPt_idem (x : Pt) : sPt (sPt x) = sPt x := (pt_idem _).1 x (Nat.lt_succ_self _)
theorem sPts_idem (x : List Pt) : sPts (sPts x) = sPts x := (pt_idem _).2 x (Nat.lt_succ_self _)
theorem sCos_idem (l : List Co) : sCos (sCos l) = sCos l := by
  induction l with
  | nil => rfl
  | cons x l ih => rw [sCos, sCos, ih]; simp [sCo, sTys_idem]
theorem ex_idem (n : Nat) : (∀ (x : Ex), SizeOf.sizeOf x < n → sEx (sEx x) = sEx x) ∧ (∀ (l : List Ex), SizeOf.sizeOf l < n → sExs (sExs l) = sExs l) ∧ (∀ (l : List Al), SizeOf.sizeOf l < n → sAls (sAls l) = sAls l) ∧ (∀ (l : List De), SizeOf.sizeOf l < n → sDes (sDes l) = sDes l) := by
  induction n with
  | zero => exact ⟨fun _ h => by omega, fun _ h => by omega, fun _ h => by omega, fun _ h => by omega⟩
  | succ n ih =>
    obtain ⟨i1, i2, i3, i4⟩ := ih
    refine ⟨fun x h => ?_, fun l h => ?_, fun l h => ?_, fun l h => ?_⟩
    · obtain ⟨k, a, s, m, args, pats, alts, decls⟩ := x
      simp at h
      rw [sEx, sEx, i2 args (by omega), sPts_idem, i3 alts (by omega), i4 decls (by omega)]
    · cases l with
      | nil => rfl
      | cons x l => simp at h; rw [sExs, sExs, i1 x (by omega), i2 l (by omega)]
    · cases l with
      | nil => rfl
      | cons x l => obtain ⟨p, b⟩ := x; simp at h; rw [sAls, sAls, sPt_idem, i1 b (by omega), i3 l (by omega)]
    · cases l with
      | nil => rfl
      | cons x l =>
        obtain ⟨k, a, s, vars, cons, ty, pats, b⟩ := x
        simp at h
        rw [sDes, sDes, sCos_idem, sTy_idem, sPts_idem, i1 b (by omega), i4 l (by omega)]
theorem sEx_idem (x : Ex) : sEx (sEx x) = sEx x := (ex_idem _).1 x (Nat.lt_succ_self _)
theorem sameTy_s (x y : Ty) : sameTy (sTy x) y = sameTy x y := by
  rw [Bool.eq_iff_iff, sameTy_iff, sameTy_iff, sTy_idem]
theorem sameEx_s (x y : Ex) : sameEx (sEx x) y = sameEx x y := by
  rw [Bool.eq_iff_iff, sameEx_iff, sameEx_iff, sEx_idem]

/-- Lengths. -/
theorem sTys_len (l : List Ty) : (sTys l).length = l.length := by
  induction l with
  | nil => rfl
  | cons x l ih => rw [sTys, List.length_cons, List.length_cons, ih]
theorem sPts_len (l : List Pt) : (sPts l).length = l.length := by
  induction l with
  | nil => rfl
  | cons x l ih => rw [sPts, List.length_cons, List.length_cons, ih]
theorem sCos_len (l : List Co) : (sCos l).length = l.length := by
  induction l with
  | nil => rfl
  | cons x l ih => rw [sCos, List.length_cons, List.length_cons, ih]
theorem sExs_len (l : List Ex) : (sExs l).length = l.length := by
  induction l with
  | nil => rfl
  | cons x l ih => rw [sExs, List.length_cons, List.length_cons, ih]
theorem sAls_len (l : List Al) : (sAls l).length = l.length := by
  induction l with
  | nil => rfl
  | cons x l ih => obtain ⟨p, b⟩ := x; rw [sAls, List.length_cons, List.length_cons, ih]
theorem sDes_len (l : List De) : (sDes l).length = l.length := by
  induction l with
  | nil => rfl
  | cons x l ih => obtain ⟨k, a, s, vars, cons, ty, pats, b⟩ := x; rw [sDes, List.length_cons, List.length_cons, ih]
/-- What types, patterns, expressions may be. -/
theorem ty_right (n : Nat) : (∀ (x : Ty) (left : Int), SizeOf.sizeOf x < n → rTy (sTy x) left = rTy x left) ∧ (∀ (l : List Ty) (left : Int), SizeOf.sizeOf l < n → rTys (sTys l) left = rTys l left) := by
  induction n with
  | zero => exact ⟨fun _ _ h => by omega, fun _ _ h => by omega⟩
  | succ n ih =>
    obtain ⟨i1, i2⟩ := ih
    refine ⟨fun x left h => ?_, fun l left h => ?_⟩
    · obtain ⟨k, a, s, l⟩ := x
      simp at h
      rw [sTy, rTy, rTy, sTys_len, i2 l _ (by omega)]
    · cases l with
      | nil => rfl
      | cons x l => simp at h; rw [sTys, rTys, rTys, i1 x _ (by omega), i2 l _ (by omega)]
theorem rTy_s (x : Ty) (left : Int) : rTy (sTy x) left = rTy x left := (ty_right _).1 x left (Nat.lt_succ_self _)
theorem pt_right (n : Nat) : (∀ (x : Pt) (left : Int), SizeOf.sizeOf x < n → rPt (sPt x) left = rPt x left) ∧ (∀ (l : List Pt) (left : Int), SizeOf.sizeOf l < n → rPts (sPts l) left = rPts l left) := by
  induction n with
  | zero => exact ⟨fun _ _ h => by omega, fun _ _ h => by omega⟩
  | succ n ih =>
    obtain ⟨i1, i2⟩ := ih
    refine ⟨fun x left h => ?_, fun l left h => ?_⟩
    · obtain ⟨k, a, s, m, l⟩ := x
      simp at h
      rw [sPt, rPt, rPt, sPts_len, i2 l _ (by omega)]
    · cases l with
      | nil => rfl
      | cons x l => simp at h; rw [sPts, rPts, rPts, i1 x _ (by omega), i2 l _ (by omega)]
theorem rPt_s (x : Pt) (left : Int) : rPt (sPt x) left = rPt x left := (pt_right _).1 x left (Nat.lt_succ_self _)
theorem rPts_s (x : List Pt) (left : Int) : rPts (sPts x) left = rPts x left := (pt_right _).2 x left (Nat.lt_succ_self _)
theorem ex_right (n : Nat) : (∀ (x : Ex), SizeOf.sizeOf x < n → (∀ left, rEx (sEx x) left = rEx x left) ∧ sizeEx (sEx x) = sizeEx x ∧ deepEx (sEx x) = deepEx x) ∧ (∀ (l : List Ex), SizeOf.sizeOf l < n → (∀ left, rExs (sExs l) left = rExs l left) ∧ sizeExs (sExs l) = sizeExs l ∧ deepExs (sExs l) = deepExs l) ∧
    (∀ (l : List Al), SizeOf.sizeOf l < n → (∀ left, rAls (sAls l) left = rAls l left) ∧ sizeAls (sAls l) = sizeAls l ∧ deepAls (sAls l) = deepAls l) ∧ (∀ (l : List De), SizeOf.sizeOf l < n → (∀ left, rDes (sDes l) left = rDes l left) ∧ sizeDes (sDes l) = sizeDes l ∧ deepDes (sDes l) = deepDes l) := by
  induction n with
  | zero => exact ⟨fun _ h => by omega, fun _ h => by omega, fun _ h => by omega, fun _ h => by omega⟩
  | succ n ih =>
    obtain ⟨i1, i2, i3, i4⟩ := ih
    refine ⟨fun x h => ?_, fun l h => ?_, fun l h => ?_, fun l h => ?_⟩
    · obtain ⟨k, a, s, m, args, pats, alts, decls⟩ := x
      simp at h
      obtain ⟨a1, a2, a3⟩ := i2 args (by omega); obtain ⟨b1, b2, b3⟩ := i3 alts (by omega); obtain ⟨c1, c2, c3⟩ := i4 decls (by omega)
      rw [sEx]
      refine ⟨fun left => ?_, ?_, ?_⟩
      · rw [rEx, rEx, sExs_len, sPts_len, sAls_len, sDes_len, rPts_s, a1, b1, c1]
      · rw [sizeEx, sizeEx, a2, b2, c2]
      · rw [deepEx, deepEx, a3, b3, c3]
    · cases l with
      | nil => exact ⟨fun _ => rfl, rfl, rfl⟩
      | cons x l =>
        simp at h
        obtain ⟨a1, a2, a3⟩ := i1 x (by omega); obtain ⟨b1, b2, b3⟩ := i2 l (by omega)
        rw [sExs]
        exact ⟨fun left => by rw [rExs, rExs, a1, b1], by rw [sizeExs, sizeExs, a2, b2], by rw [deepExs, deepExs, a3, b3]⟩
    · cases l with
      | nil => exact ⟨fun _ => rfl, rfl, rfl⟩
      | cons x l =>
        obtain ⟨p, b⟩ := x
        simp at h
        obtain ⟨a1, a2, a3⟩ := i1 b (by omega); obtain ⟨b1, b2, b3⟩ := i3 l (by omega)
        rw [sAls]
        exact ⟨fun left => by rw [rAls, rAls, rPt_s, a1, b1], by rw [sizeAls, sizeAls, a2, b2], by rw [deepAls, deepAls, a3, b3]⟩
    · cases l with
      | nil => exact ⟨fun _ => rfl, rfl, rfl⟩
      | cons x l =>
        obtain ⟨k, a, s, vars, cons, ty, pats, b⟩ := x
        simp at h
        obtain ⟨a1, a2, a3⟩ := i1 b (by omega); obtain ⟨b1, b2, b3⟩ := i4 l (by omega)
        rw [sDes]
        exact ⟨fun left => by rw [rDes, rDes, sCos_len, rTy_s, sameEx_s, sameTy_s, sPts_len, rPts_s, a1, b1], by rw [sizeDes, sizeDes, a2, b2], by rw [deepDes, deepDes, a3, b3]⟩
theorem rEx_s (x : Ex) (left : Int) : rEx (sEx x) left = rEx x left := ((ex_right _).1 x (Nat.lt_succ_self _)).1 left
theorem sizeEx_s (x : Ex) : sizeEx (sEx x) = sizeEx x := ((ex_right _).1 x (Nat.lt_succ_self _)).2.1
theorem deepEx_s (x : Ex) : deepEx (sEx x) = deepEx x := ((ex_right _).1 x (Nat.lt_succ_self _)).2.2

/-- The law: a, c (a at other places), b. -/
theorem alike_all {a c : Ex} (h : sEx c = sEx a) (b : Ex) : sameEx a c = true ∧ sameEx c a = true ∧ sameEx a b = sameEx c b ∧ sameEx a b = sameEx b a ∧ sizeEx a = sizeEx c ∧ deepEx a = deepEx c ∧ rEx a 400 = rEx c 400 ∧ (sameEx a b = true → sizeEx a = sizeEx b ∧ rEx a 400 = rEx b 400) := by
  refine ⟨(sameEx_iff _ _).2 h.symm, (sameEx_iff _ _).2 h, ?_, ?_, ?_, ?_, ?_, fun hs => ?_⟩
  · rw [Bool.eq_iff_iff, sameEx_iff, sameEx_iff, h]
  · rw [Bool.eq_iff_iff, sameEx_iff, sameEx_iff]; exact eq_comm
  · rw [← sizeEx_s a, ← sizeEx_s c, h]
  · rw [← deepEx_s a, ← deepEx_s c, h]
  · rw [← rEx_s a, ← rEx_s c, h]
  · have hs := (sameEx_iff _ _).1 hs
    exact ⟨by rw [← sizeEx_s a, ← sizeEx_s b, hs], by rw [← rEx_s a, ← rEx_s b, hs]⟩
end Go.Proofs.Ytfeghobfkgimfaa
