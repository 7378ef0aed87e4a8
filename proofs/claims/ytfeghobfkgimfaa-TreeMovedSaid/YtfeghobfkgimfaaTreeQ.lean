/- What is the same but for places. Plain. -/
import Derived.Test.YtfeghobfkgimfaaTreeE
namespace Go.Proofs.Ytfeghobfkgimfaa
set_option linter.unusedSimpArgs false
set_option linter.unusedVariables false

theorem allB_head (n : Nat) (R : Nat → Bool) : allB (n + 1) R = (R 0 && allB n (fun i => R (i + 1))) := by
  simp [allB, List.range_succ_eq_map, List.all_map, Function.comp_def]
theorem eqB_head (n m : Nat) (R : Nat → Bool) : eqB (n + 1) (m + 1) R = (R 0 && eqB n m (fun i => R (i + 1))) := by
  unfold eqB
  rw [allB_head]
  by_cases h : n = m <;> simp [h]
/-- Two lists, one by one, by their places. -/
theorem list_eqB {α : Type} (f : α → α → Bool) (fs : List α → List α → Bool) (h0 : fs [] [] = true) (h1 : ∀ x a, fs (x :: a) [] = false) (h2 : ∀ x a, fs [] (x :: a) = false) (h3 : ∀ x y a b, fs (x :: a) (y :: b) = (f x y && fs a b)) :
    ∀ (a b : List α) (R : Nat → Bool), (∀ i (i1 : i < a.length) (i2 : i < b.length), R i = f a[i] b[i]) → fs a b = eqB a.length b.length R := by
  intro a
  induction a with
  | nil =>
    intro b R _
    cases b with
    | nil => rw [h0]; rfl
    | cons y b => rw [h2]; simp [eqB]
  | cons x a ih =>
    intro b R hR
    cases b with
    | nil => rw [h1]; simp [eqB]
    | cons y b =>
      rw [h3, List.length_cons, List.length_cons, eqB_head, hR 0 (by simp) (by simp), ih b (fun i => R (i + 1)) (fun i i1 i2 => hR (i + 1) (by simpa using i1) (by simpa using i2))]
      rfl

def eqS (s t : ByteArray) : Bool := s.toList == t.toList
def sameStrs : List ByteArray → List ByteArray → Bool
  | [], [] => true
  | x :: a, y :: b => eqS x y && sameStrs a b
  | [], _ :: _ => false
  | _ :: _, [] => false
mutual
def sameTy : Ty → Ty → Bool
  | .mk k _ s a, .mk k' _ s' a' => (k == k') && eqS s s' && sameTys a a'
def sameTys : List Ty → List Ty → Bool
  | [], [] => true
  | x :: a, y :: b => sameTy x y && sameTys a b
  | [], _ :: _ => false
  | _ :: _, [] => false
end
mutual
def samePt : Pt → Pt → Bool
  | .mk k _ s n a, .mk k' _ s' n' a' => (k == k') && eqS s s' && (n == n') && samePts a a'
def samePts : List Pt → List Pt → Bool
  | [], [] => true
  | x :: a, y :: b => samePt x y && samePts a b
  | [], _ :: _ => false
  | _ :: _, [] => false
end
def sameCo (a b : Co) : Bool := eqS a.name b.name && sameTys a.args b.args
def sameCos : List Co → List Co → Bool
  | [], [] => true
  | x :: a, y :: b => sameCo x y && sameCos a b
  | [], _ :: _ => false
  | _ :: _, [] => false
mutual
def sameEx : Ex → Ex → Bool
  | .mk k _ s n a p l d, .mk k' _ s' n' a' p' l' d' => (k == k') && eqS s s' && (n == n') && sameExs a a' && samePts p p' && sameAls l l' && sameDes d d'
def sameExs : List Ex → List Ex → Bool
  | [], [] => true
  | x :: a, y :: b => sameEx x y && sameExs a b
  | [], _ :: _ => false
  | _ :: _, [] => false
def sameAl : Al → Al → Bool
  | .mk p b, .mk p' b' => samePt p p' && sameEx b b'
def sameAls : List Al → List Al → Bool
  | [], [] => true
  | x :: a, y :: b => sameAl x y && sameAls a b
  | [], _ :: _ => false
  | _ :: _, [] => false
def sameDe : De → De → Bool
  | .mk k _ s vars cons ty pats body, .mk k' _ s' vars' cons' ty' pats' body' => (k == k') && eqS s s' && sameStrs vars vars' && sameCos cons cons' && sameTy ty ty' && samePts pats pats' && sameEx body body'
def sameDes : List De → List De → Bool
  | [], [] => true
  | x :: a, y :: b => sameDe x y && sameDes a b
  | [], _ :: _ => false
  | _ :: _, [] => false
end
section
variable {R : Nat → Bool}
theorem sameStrs_eqB (a b : List ByteArray) (hR : ∀ i (i1 : i < a.length) (i2 : i < b.length), R i = eqS a[i] b[i]) : sameStrs a b = eqB a.length b.length R :=
  list_eqB eqS sameStrs (by simp only [sameStrs]) (fun _ _ => by simp only [sameStrs]) (fun _ _ => by simp only [sameStrs]) (fun _ _ _ _ => by simp only [sameStrs]) a b R hR
theorem sameTys_eqB (a b : List Ty) (hR : ∀ i (i1 : i < a.length) (i2 : i < b.length), R i = sameTy a[i] b[i]) : sameTys a b = eqB a.length b.length R :=
  list_eqB sameTy sameTys (by simp only [sameTys]) (fun _ _ => by simp only [sameTys]) (fun _ _ => by simp only [sameTys]) (fun _ _ _ _ => by simp only [sameTys]) a b R hR
theorem samePts_eqB (a b : List Pt) (hR : ∀ i (i1 : i < a.length) (i2 : i < b.length), R i = samePt a[i] b[i]) : samePts a b = eqB a.length b.length R :=
  list_eqB samePt samePts (by simp only [samePts]) (fun _ _ => by simp only [samePts]) (fun _ _ => by simp only [samePts]) (fun _ _ _ _ => by simp only [samePts]) a b R hR
theorem sameCos_eqB (a b : List Co) (hR : ∀ i (i1 : i < a.length) (i2 : i < b.length), R i = sameCo a[i] b[i]) : sameCos a b = eqB a.length b.length R :=
  list_eqB sameCo sameCos (by simp only [sameCos]) (fun _ _ => by simp only [sameCos]) (fun _ _ => by simp only [sameCos]) (fun _ _ _ _ => by simp only [sameCos]) a b R hR
theorem sameExs_eqB (a b : List Ex) (hR : ∀ i (i1 : i < a.length) (i2 : i < b.length), R i = sameEx a[i] b[i]) : sameExs a b = eqB a.length b.length R :=
  list_eqB sameEx sameExs (by simp only [sameExs]) (fun _ _ => by simp only [sameExs]) (fun _ _ => by simp only [sameExs]) (fun _ _ _ _ => by simp only [sameExs]) a b R hR
theorem sameAls_eqB (a b : List Al) (hR : ∀ i (i1 : i < a.length) (i2 : i < b.length), R i = sameAl a[i] b[i]) : sameAls a b = eqB a.length b.length R :=
  list_eqB sameAl sameAls (by simp only [sameAls]) (fun _ _ => by simp only [sameAls]) (fun _ _ => by simp only [sameAls]) (fun _ _ _ _ => by simp only [sameAls]) a b R hR
theorem sameDes_eqB (a b : List De) (hR : ∀ i (i1 : i < a.length) (i2 : i < b.length), R i = sameDe a[i] b[i]) : sameDes a b = eqB a.length b.length R :=
  list_eqB sameDe sameDes (by simp only [sameDes]) (fun _ _ => by simp only [sameDes]) (fun _ _ => by simp only [sameDes]) (fun _ _ _ _ => by simp only [sameDes]) a b R hR
end
end Go.Proofs.Ytfeghobfkgimfaa
