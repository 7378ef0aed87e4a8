/- Trees: types, patterns, expressions, declarations; how many parts are left; what is the same. Plain: no program here. -/
namespace Go.Proofs.Ytfeghobfkgimfaa
set_option linter.unusedSimpArgs false
set_option linter.unusedVariables false

/-- A type, a pattern, a constructor, an expression, what a case comes to, a declaration. -/
inductive Ty where
  | mk (kind at_ : Int) (name : ByteArray) (args : List Ty)
inductive Pt where
  | mk (kind at_ : Int) (name : ByteArray) (n : Int) (args : List Pt)
structure Co where
  at_ : Int
  name : ByteArray
  args : List Ty
mutual
inductive Ex where
  | mk (kind at_ : Int) (name : ByteArray) (n : Int) (args : List Ex) (pats : List Pt) (alts : List Al) (decls : List De)
inductive Al where
  | mk (pat : Pt) (body : Ex)
inductive De where
  | mk (kind at_ : Int) (name : ByteArray) (vars : List ByteArray) (cons : List Co) (ty : Ty) (pats : List Pt) (body : Ex)
end
def Al.pat : Al → Pt
  | .mk p _ => p
def Al.body : Al → Ex
  | .mk _ b => b

/-- How many parts are left. -/
def fewTys : List Ty → Int → Int
  | [], left => left
  | .mk _ _ s args :: l, left => if left < 0 then left else fewTys l (fewTys args (left - 1 - (s.size : Int) / 100))
def fewPts : List Pt → Int → Int
  | [], left => left
  | .mk _ _ s _ args :: l, left => if left < 0 then left else fewPts l (fewPts args (left - 1 - (s.size : Int) / 100))
def fewVars : List ByteArray → Int → Int
  | [], left => left
  | s :: l, left => if left < 0 then left else fewVars l (left - (s.size : Int) / 100)
def fewCos : List Co → Int → Int
  | [], left => left
  | c :: l, left => if left < 0 then left else fewCos l (fewTys c.args (left - 1 - (c.name.size : Int) / 100))
mutual
def fewEx : Ex → Int → Int
  | .mk _ _ s _ args pats alts decls, left => fewDes decls (fewAls alts (fewPts pats (fewExs args (left - 1 - (s.size : Int) / 100))))
def fewExs : List Ex → Int → Int
  | [], left => left
  | e :: l, left => if left < 0 then left else fewExs l (fewEx e left)
def fewAls : List Al → Int → Int
  | [], left => left
  | .mk p b :: l, left => if left < 0 then left else fewAls l (if fewPts [p] (left - 1) < 0 then fewPts [p] (left - 1) else fewEx b (fewPts [p] (left - 1)))
def fewDes : List De → Int → Int
  | [], left => left
  | .mk _ _ s vars cons ty pats body :: l, left => if left < 0 then left else
    fewDes l (if fewPts pats (fewTys [ty] (fewCos cons (fewVars vars (left - 1 - (s.size : Int) / 100 - (vars.length : Int))))) < 0 then fewPts pats (fewTys [ty] (fewCos cons (fewVars vars (left - 1 - (s.size : Int) / 100 - (vars.length : Int)))))
      else fewEx body (fewPts pats (fewTys [ty] (fewCos cons (fewVars vars (left - 1 - (s.size : Int) / 100 - (vars.length : Int)))))))
end
theorem fewExs_one (e : Ex) (left : Int) : fewExs [e] left = if left < 0 then left else fewEx e left := by simp only [fewExs]

/-- How many parts there are. -/
def cntTys : List Ty → Nat
  | [] => 0
  | .mk _ _ _ args :: l => 1 + cntTys args + cntTys l
def cntPts : List Pt → Nat
  | [] => 0
  | .mk _ _ _ _ args :: l => 1 + cntPts args + cntPts l
def cntCos : List Co → Nat
  | [] => 0
  | c :: l => 1 + cntTys c.args + cntCos l
mutual
def cntEx : Ex → Nat
  | .mk _ _ _ _ args pats alts decls => 1 + cntExs args + cntPts pats + cntAls alts + cntDes decls
def cntExs : List Ex → Nat
  | [] => 0
  | e :: l => cntEx e + cntExs l
def cntAls : List Al → Nat
  | [] => 0
  | .mk p b :: l => 1 + cntPts [p] + cntEx b + cntAls l
def cntDes : List De → Nat
  | [] => 0
  | .mk _ _ _ vars cons ty pats body :: l => 1 + vars.length + cntCos cons + cntTys [ty] + cntPts pats + cntEx body + cntDes l
end

/-- So many parts are gone. -/
def Gone (left r : Int) (n : Nat) : Prop := r ≤ left ∧ (0 ≤ r → (n : Int) ≤ left - r)
theorem Gone.trans {a b c : Int} {n m : Nat} (h : Gone a b n) (k : Gone b c m) : Gone a c (n + m) := ⟨by have := h.1; have := k.1; omega, fun hc => by
  have h1 := h.1; have k1 := k.1
  have k2 := k.2 hc
  have h2 := h.2 (by omega)
  omega⟩
theorem Gone.refl (a : Int) : Gone a a 0 := ⟨Int.le_refl _, fun _ => by omega⟩
theorem Gone.neg {a : Int} (h : a < 0) (n : Nat) : Gone a a n := ⟨Int.le_refl _, fun _ => by omega⟩
theorem Gone.one {a : Int} (s : Nat) : Gone a (a - 1 - (s : Int) / 100) 1 := ⟨by have : 0 ≤ (s : Int) / 100 := Int.ediv_nonneg (by omega) (by omega); omega, fun _ => by have : 0 ≤ (s : Int) / 100 := Int.ediv_nonneg (by omega) (by omega); omega⟩
theorem Gone.cast {a b : Int} {n m : Nat} (h : Gone a b n) (e : n = m) : Gone a b m := e ▸ h

theorem fewTys_gone (n : Nat) : ∀ (l : List Ty) (left : Int), sizeOf l < n → Gone left (fewTys l left) (cntTys l) := by
  induction n with
  | zero => intro l left h; omega
  | succ n ih =>
    intro l left h
    cases l with
    | nil => rw [fewTys, cntTys]; exact Gone.refl _
    | cons t l =>
      obtain ⟨k, a, s, args⟩ := t
      simp at h
      rw [fewTys, cntTys]
      by_cases hl : left < 0
      · rw [if_pos hl]; exact Gone.neg hl _
      · rw [if_neg hl]
        exact (((Gone.one s.size).trans (ih args _ (by omega))).trans (ih l _ (by omega)))
theorem fewPts_gone (n : Nat) : ∀ (l : List Pt) (left : Int), sizeOf l < n → Gone left (fewPts l left) (cntPts l) := by
  induction n with
  | zero => intro l left h; omega
  | succ n ih =>
    intro l left h
    cases l with
    | nil => rw [fewPts, cntPts]; exact Gone.refl _
    | cons t l =>
      obtain ⟨k, a, s, m, args⟩ := t
      simp at h
      rw [fewPts, cntPts]
      by_cases hl : left < 0
      · rw [if_pos hl]; exact Gone.neg hl _
      · rw [if_neg hl]
        exact (((Gone.one s.size).trans (ih args _ (by omega))).trans (ih l _ (by omega)))
theorem fewVars_gone (l : List ByteArray) : ∀ left, Gone left (fewVars l left) 0 := by
  induction l with
  | nil => intro left; rw [fewVars]; exact Gone.refl _
  | cons s l ih =>
    intro left
    rw [fewVars]
    by_cases hl : left < 0
    · rw [if_pos hl]; exact Gone.neg hl _
    · rw [if_neg hl]
      have h1 : Gone left (left - (s.size : Int) / 100) 0 := ⟨by have : 0 ≤ (s.size : Int) / 100 := Int.ediv_nonneg (by omega) (by omega); omega, fun _ => by have : 0 ≤ (s.size : Int) / 100 := Int.ediv_nonneg (by omega) (by omega); omega⟩
      exact (h1.trans (ih _))
theorem fewCos_gone (l : List Co) : ∀ left, Gone left (fewCos l left) (cntCos l) := by
  induction l with
  | nil => intro left; rw [fewCos, cntCos]; exact Gone.refl _
  | cons c l ih =>
    intro left
    rw [fewCos, cntCos]
    by_cases hl : left < 0
    · rw [if_pos hl]; exact Gone.neg hl _
    · rw [if_neg hl]
      exact ((Gone.one c.name.size).trans (fewTys_gone _ c.args _ (Nat.lt_succ_self _))).trans (ih _)
theorem Gone.ite {a b c : Int} {n m : Nat} (h : Gone a b n) (k : Gone b c m) : Gone a (if b < 0 then b else c) (n + m) := by
  by_cases hb : b < 0
  · rw [if_pos hb]; exact h.trans (Gone.neg hb m)
  · rw [if_neg hb]; exact h.trans k
theorem fewEx_gone (n : Nat) : (∀ (e : Ex) (left : Int), sizeOf e < n → Gone left (fewEx e left) (cntEx e)) ∧ (∀ (l : List Ex) (left : Int), sizeOf l < n → Gone left (fewExs l left) (cntExs l)) ∧ (∀ (l : List Al) (left : Int), sizeOf l < n → Gone left (fewAls l left) (cntAls l)) ∧ (∀ (l : List De) (left : Int), sizeOf l < n → Gone left (fewDes l left) (cntDes l)) := by
  induction n with
  | zero => exact ⟨fun l left h => by omega, fun l left h => by omega, fun l left h => by omega, fun l left h => by omega⟩
  | succ n ih =>
    obtain ⟨ih1, ihE, ihA, ihD⟩ := ih
    refine ⟨fun t left h => ?_, fun l left h => ?_, fun l left h => ?_, fun l left h => ?_⟩
    · obtain ⟨k, a, s, m, args, pats, alts, decls⟩ := t
      simp at h
      rw [fewEx, cntEx]
      exact ((((Gone.one s.size).trans (ihE args _ (by omega))).trans (fewPts_gone _ pats _ (Nat.lt_succ_self _))).trans (ihA alts _ (by omega))).trans (ihD decls _ (by omega))
    · cases l with
      | nil => rw [fewExs, cntExs]; exact Gone.refl _
      | cons t l =>
        simp at h
        rw [fewExs, cntExs]
        by_cases hl : left < 0
        · rw [if_pos hl]; exact Gone.neg hl _
        · rw [if_neg hl]
          exact (ih1 t _ (by omega)).trans (ihE l _ (by omega))
    · cases l with
      | nil => rw [fewAls, cntAls]; exact Gone.refl _
      | cons t l =>
        obtain ⟨p, b⟩ := t
        simp at h
        rw [fewAls, cntAls]
        by_cases hl : left < 0
        · rw [if_pos hl]; exact Gone.neg hl _
        · rw [if_neg hl]
          have h1 : Gone left (left - 1) 1 := ⟨by omega, fun _ => by omega⟩
          exact ((h1.trans (fewPts_gone _ [p] _ (Nat.lt_succ_self _))).ite (ih1 b _ (by omega))).trans (ihA l _ (by omega))
    · cases l with
      | nil => rw [fewDes, cntDes]; exact Gone.refl _
      | cons t l =>
        obtain ⟨k, a, s, vars, cons, ty, pats, body⟩ := t
        simp at h
        rw [fewDes, cntDes]
        by_cases hl : left < 0
        · rw [if_pos hl]; exact Gone.neg hl _
        · rw [if_neg hl]
          have h1 : Gone left (left - 1 - (s.size : Int) / 100 - (vars.length : Int)) (1 + vars.length) := ⟨by have := (Gone.one (a := left) s.size).1; omega, fun h0 => by have := (Gone.one (a := left) s.size).2 (by omega); omega⟩
          refine (((((((h1.trans (fewVars_gone vars _)).trans (fewCos_gone cons _)).trans (fewTys_gone _ [ty] _ (Nat.lt_succ_self _))).trans (fewPts_gone _ pats _ (Nat.lt_succ_self _))).ite (ih1 body _ (by omega))).trans (ihD l _ (by omega))).cast ?_)
          omega
theorem fewEx_g (e : Ex) (left : Int) : Gone left (fewEx e left) (cntEx e) := (fewEx_gone _).1 e left (Nat.lt_succ_self _)
theorem fewExs_gone (l : List Ex) (left : Int) : Gone left (fewExs l left) (cntExs l) := (fewEx_gone _).2.1 l left (Nat.lt_succ_self _)
theorem fewAls_gone (l : List Al) (left : Int) : Gone left (fewAls l left) (cntAls l) := (fewEx_gone _).2.2.1 l left (Nat.lt_succ_self _)
theorem fewDes_gone (l : List De) (left : Int) : Gone left (fewDes l left) (cntDes l)   := (fewEx_gone _).2.2.2 l left (Nat.lt_succ_self _)
theorem fewTys_g (l : List Ty) (left : Int) : Gone left (fewTys l left) (cntTys l) := fewTys_gone _ l left (Nat.lt_succ_self _)
theorem fewPts_g (l : List Pt) (left : Int) : Gone left (fewPts l left) (cntPts l) := fewPts_gone _ l left (Nat.lt_succ_self _)
end Go.Proofs.Ytfeghobfkgimfaa
