/- Trees as cells in memory. -/
import Derived.Test.YtfeghobfkgimfaaTreeP
import Derived.Test.YtfeghobfkgimfaaRows
import Derived.WalkKit
import Derived.WalkSpells
import Derived.WalkLawsBesides
import Derived.Lib.Hide
import Derived.Deep.QuietTactic
import Derived.BigQuiet
import Derived.Deep.LoopGhost
import Derived.Deep.OwnRows
import Derived.Deep.Draws
import Derived.Deep.RegionLaw
import Derived.Deep.RegionWith
import Derived.BigRegion
import Derived.RegionTactic
import Derived.Deep.RegionHeld3
import Derived.Deep.DeepCutAuto
import Derived.Maps.AppendAt
import Derived.Deep.AppendLies
import Derived.Below
import Derived.Shelf.Abstract
namespace Go.Proofs.Ytfeghobfkgimfaa
set_option linter.unusedSimpArgs false
set_option linter.unusedVariables false
open Go.RowKit Go.Shelf

/-- What may be read: block, place. -/
def Mem := Nat → Nat → Option Value
def Mem.le (m m' : Mem) : Prop := ∀ g o v, m g o = some v → m' g o = some v
def mem (w : World) : Mem := fun g o => w.cell? ⟨g, o, none⟩
open Classical in
noncomputable def memX (w : World) (X : Nat → Prop) : Mem := fun g o => if X g then w.cell? ⟨g, o, none⟩ else none
theorem Mem.le_refl (m : Mem) : m.le m := fun _ _ _ h => h
theorem Mem.le_trans {a b c : Mem} (h : a.le b) (k : b.le c) : a.le c := fun g o v x => k g o v (h g o v x)

/-- A slice's elements as cells: so many of so many cells each. -/
def SlAt (m : Mem) (sz : Nat) (A : Option Addr) (n : Nat) (C : Nat → List Value) : Prop :=
  0 < n → ∃ g o, A = some ⟨g, o, none⟩ ∧ ∀ i, i < n → ∀ j, j < sz → m g (o + i * sz + j) = (C i)[j]?
theorem SlAt.mono {m m' : Mem} {sz : Nat} {A : Option Addr} {n : Nat} {C : Nat → List Value} (h : SlAt m sz A n C) (hm : m.le m') (hl : ∀ i, i < n → (C i).length = sz) : SlAt m' sz A n C := fun h0 => by
  obtain ⟨g, o, hA, hc⟩ := h h0
  refine ⟨g, o, hA, fun i hi j hj => ?_⟩
  have h1 := hc i hi j hj
  have h2 : (C i)[j]? = some ((C i)[j]'(by rw [hl i hi]; exact hj)) := List.getElem?_eq_getElem _
  rw [h2] at h1 ⊢
  exact hm _ _ _ h1

/-- A type's cells; a pattern's. -/
inductive TyC (m : Mem) : Ty → List Value → Prop
  | mk (k a : Int) (s : ByteArray) (l : List Ty) (A : Option Addr) (c : Nat) (C : Nat → List Value) (hc : l.length ≤ c ∧ c ≤ maxLen) (hA : SlAt m 4 A l.length C) (h : ∀ i (hi : i < l.length), TyC m l[i] (C i)) (hs : s.size ≤ maxLen) :
      TyC m (.mk k a s l) [.int .i64 k, .int .i64 a, .string s, .slice A l.length c]
inductive PtC (m : Mem) : Pt → List Value → Prop
  | mk (k a : Int) (s : ByteArray) (n : Int) (l : List Pt) (A : Option Addr) (c : Nat) (C : Nat → List Value) (hc : l.length ≤ c ∧ c ≤ maxLen) (hA : SlAt m 5 A l.length C) (h : ∀ i (hi : i < l.length), PtC m l[i] (C i)) (hs : s.size ≤ maxLen) :
      PtC m (.mk k a s n l) [.int .i64 k, .int .i64 a, .string s, .int .i64 n, .slice A l.length c]
/-- A slice of types, as a value. -/
def TysV (m : Mem) (l : List Ty) (v : Value) : Prop := ∃ A c C, v = .slice A l.length c ∧ (l.length ≤ c ∧ c ≤ maxLen) ∧ SlAt m 4 A l.length C ∧ ∀ i (hi : i < l.length), TyC m l[i] (C i)
def PtsV (m : Mem) (l : List Pt) (v : Value) : Prop := ∃ A c C, v = .slice A l.length c ∧ (l.length ≤ c ∧ c ≤ maxLen) ∧ SlAt m 5 A l.length C ∧ ∀ i (hi : i < l.length), PtC m l[i] (C i)
def StrsV (m : Mem) (l : List ByteArray) (v : Value) : Prop := ∃ A c, v = .slice A l.length c ∧ (l.length ≤ c ∧ c ≤ maxLen) ∧ SlAt m 1 A l.length (fun i => [.string (l.getD i ByteArray.empty)])
/-- No text, no list of texts takes more than there is. -/
structure DeOk (s : ByteArray) (vars : List ByteArray) (cons : List Co) : Prop where
  nm : s.size ≤ maxLen
  vl : vars.length ≤ 140737488355328
  vs : ∀ v ∈ vars, v.size ≤ maxLen
  cn : ∀ c ∈ cons, c.name.size ≤ maxLen
/-- A constructor's cells. -/
def CoC (m : Mem) (d : Co) (cs : List Value) : Prop := ∃ v, cs = [.int .i64 d.at_, .string d.name, v] ∧ TysV m d.args v
def CosV (m : Mem) (l : List Co) (v : Value) : Prop := ∃ A c C, v = .slice A l.length c ∧ (l.length ≤ c ∧ c ≤ maxLen) ∧ SlAt m 3 A l.length C ∧ ∀ i (hi : i < l.length), CoC m l[i] (C i)

theorem TyC.len {m : Mem} {d : Ty} {cs : List Value} (h : TyC m d cs) : cs.length = 4 := by cases h; rfl
theorem PtC.len {m : Mem} {d : Pt} {cs : List Value} (h : PtC m d cs) : cs.length = 5 := by cases h; rfl
theorem CoC.len {m : Mem} {d : Co} {cs : List Value} (h : CoC m d cs) : cs.length = 3 := by obtain ⟨v, rfl, _⟩ := h; rfl
theorem TyC.inv {m : Mem} {k a : Int} {s : ByteArray} {l : List Ty} {cs : List Value} (h : TyC m (.mk k a s l) cs) : ∃ v, cs = [.int .i64 k, .int .i64 a, .string s, v] ∧ TysV m l v := by
  cases h with
  | mk _ _ _ _ A c C hc hA h hs => exact ⟨_, rfl, A, c, C, rfl, hc, hA, h⟩
theorem PtC.inv {m : Mem} {k a : Int} {s : ByteArray} {n : Int} {l : List Pt} {cs : List Value} (h : PtC m (.mk k a s n l) cs) : ∃ v, cs = [.int .i64 k, .int .i64 a, .string s, .int .i64 n, v] ∧ PtsV m l v := by
  cases h with
  | mk _ _ _ _ _ A c C hc hA h hs => exact ⟨_, rfl, A, c, C, rfl, hc, hA, h⟩
theorem TyC.of {m : Mem} {k a : Int} {s : ByteArray} {l : List Ty} {v : Value} (h : TysV m l v) (hs : s.size ≤ maxLen) : TyC m (.mk k a s l) [.int .i64 k, .int .i64 a, .string s, v] := by
  obtain ⟨A, c, C, rfl, hc, hA, h⟩ := h
  exact .mk k a s l A c C hc hA h hs
theorem PtC.of {m : Mem} {k a : Int} {s : ByteArray} {n : Int} {l : List Pt} {v : Value} (h : PtsV m l v) (hs : s.size ≤ maxLen) : PtC m (.mk k a s n l) [.int .i64 k, .int .i64 a, .string s, .int .i64 n, v] := by
  obtain ⟨A, c, C, rfl, hc, hA, h⟩ := h
  exact .mk k a s n l A c C hc hA h hs
theorem TyC.size {m : Mem} {k a : Int} {s : ByteArray} {l : List Ty} {cs : List Value} (h : TyC m (.mk k a s l) cs) : s.size ≤ maxLen := by
  cases h; assumption
theorem PtC.size {m : Mem} {k a : Int} {s : ByteArray} {n : Int} {l : List Pt} {cs : List Value} (h : PtC m (.mk k a s n l) cs) : s.size ≤ maxLen := by
  cases h; assumption
theorem TyC.mono {m m' : Mem} (hm : m.le m') {d : Ty} {cs : List Value} (h : TyC m d cs) : TyC m' d cs := by
  induction h with
  | mk k a s l A c C hc hA h hs ih => exact .mk k a s l A c C hc (hA.mono hm (fun i hi => (h i hi).len)) ih hs
theorem PtC.mono {m m' : Mem} (hm : m.le m') {d : Pt} {cs : List Value} (h : PtC m d cs) : PtC m' d cs := by
  induction h with
  | mk k a s n l A c C hc hA h hs ih => exact .mk k a s n l A c C hc (hA.mono hm (fun i hi => (h i hi).len)) ih hs
theorem TysV.mono {m m' : Mem} (hm : m.le m') {l : List Ty} {v : Value} (h : TysV m l v) : TysV m' l v := by
  obtain ⟨A, c, C, hv, hc, hA, h⟩ := h
  exact ⟨A, c, C, hv, hc, hA.mono hm (fun i hi => (h i hi).len), fun i hi => (h i hi).mono hm⟩
theorem PtsV.mono {m m' : Mem} (hm : m.le m') {l : List Pt} {v : Value} (h : PtsV m l v) : PtsV m' l v := by
  obtain ⟨A, c, C, hv, hc, hA, h⟩ := h
  exact ⟨A, c, C, hv, hc, hA.mono hm (fun i hi => (h i hi).len), fun i hi => (h i hi).mono hm⟩
theorem StrsV.mono {m m' : Mem} (hm : m.le m') {l : List ByteArray} {v : Value} (h : StrsV m l v) : StrsV m' l v := by
  obtain ⟨A, c, hv, hc, hA⟩ := h
  exact ⟨A, c, hv, hc, hA.mono hm (fun _ _ => rfl)⟩
theorem CoC.mono {m m' : Mem} (hm : m.le m') {d : Co} {cs : List Value} (h : CoC m d cs) : CoC m' d cs := by
  obtain ⟨v, hv, h⟩ := h
  exact ⟨v, hv, h.mono hm⟩
theorem CosV.mono {m m' : Mem} (hm : m.le m') {l : List Co} {v : Value} (h : CosV m l v) : CosV m' l v := by
  obtain ⟨A, c, C, hv, hc, hA, h⟩ := h
  exact ⟨A, c, C, hv, hc, hA.mono hm (fun i hi => (h i hi).len), fun i hi => (h i hi).mono hm⟩

/- Expressions, what a case comes to, declarations. -/
mutual
inductive ExC (m : Mem) : Ex → List Value → Prop
  | mk (k a : Int) (s : ByteArray) (n : Int) (l : List Ex) (pats : List Pt) (alts : List Al) (decls : List De) (A : Option Addr) (c : Nat) (C : Nat → List Value) (vp : Value) (A2 : Option Addr) (c2 : Nat) (C2 : Nat → List Value) (A3 : Option Addr) (c3 : Nat) (C3 : Nat → List Value)
      (hc : l.length ≤ c ∧ c ≤ maxLen) (hA : SlAt m 8 A l.length C) (h : ∀ i (hi : i < l.length), ExC m l[i] (C i)) (hp : PtsV m pats vp)
      (hc2 : alts.length ≤ c2 ∧ c2 ≤ maxLen) (hA2 : SlAt m 13 A2 alts.length C2) (h2 : ∀ i (hi : i < alts.length), AlC m alts[i] (C2 i))
      (hc3 : decls.length ≤ c3 ∧ c3 ≤ maxLen) (hA3 : SlAt m 18 A3 decls.length C3) (h3 : ∀ i (hi : i < decls.length), DeC m decls[i] (C3 i)) (hs : s.size ≤ maxLen) :
      ExC m (.mk k a s n l pats alts decls) [.int .i64 k, .int .i64 a, .string s, .int .i64 n, .slice A l.length c, vp, .slice A2 alts.length c2, .slice A3 decls.length c3]
inductive AlC (m : Mem) : Al → List Value → Prop
  | mk (p : Pt) (b : Ex) (cp cb : List Value) (hp : PtC m p cp) (hb : ExC m b cb) : AlC m (.mk p b) (cp ++ cb)
inductive DeC (m : Mem) : De → List Value → Prop
  | mk (k a : Int) (s : ByteArray) (vars : List ByteArray) (cons : List Co) (ty : Ty) (pats : List Pt) (body : Ex) (vv vc vp : Value) (ct cb : List Value)
      (hv : StrsV m vars vv) (hl : DeOk s vars cons) (hcs : CosV m cons vc) (ht : TyC m ty ct) (hp : PtsV m pats vp) (hb : ExC m body cb) :
      DeC m (.mk k a s vars cons ty pats body) ([.int .i64 k, .int .i64 a, .string s, vv, vc] ++ ct ++ [vp] ++ cb)
end
def ExsV (m : Mem) (l : List Ex) (v : Value) : Prop := ∃ A c C, v = .slice A l.length c ∧ (l.length ≤ c ∧ c ≤ maxLen) ∧ SlAt m 8 A l.length C ∧ ∀ i (hi : i < l.length), ExC m l[i] (C i)
def AlsV (m : Mem) (l : List Al) (v : Value) : Prop := ∃ A c C, v = .slice A l.length c ∧ (l.length ≤ c ∧ c ≤ maxLen) ∧ SlAt m 13 A l.length C ∧ ∀ i (hi : i < l.length), AlC m l[i] (C i)
def DesV (m : Mem) (l : List De) (v : Value) : Prop := ∃ A c C, v = .slice A l.length c ∧ (l.length ≤ c ∧ c ≤ maxLen) ∧ SlAt m 18 A l.length C ∧ ∀ i (hi : i < l.length), DeC m l[i] (C i)
theorem ExC.inv {m : Mem} {k a : Int} {s : ByteArray} {n : Int} {l : List Ex} {pats : List Pt} {alts : List Al} {decls : List De} {cs : List Value} (h : ExC m (.mk k a s n l pats alts decls) cs) :
    ∃ v1 v2 v3 v4, cs = [.int .i64 k, .int .i64 a, .string s, .int .i64 n, v1, v2, v3, v4] ∧ ExsV m l v1 ∧ PtsV m pats v2 ∧ AlsV m alts v3 ∧ DesV m decls v4 := by
  cases h with
  | mk _ _ _ _ _ _ _ _ A c C vp A2 c2 C2 A3 c3 C3 hc hA h hp hc2 hA2 h2 hc3 hA3 h3 hs =>
    exact ⟨_, _, _, _, rfl, ⟨A, c, C, rfl, hc, hA, h⟩, hp, ⟨A2, c2, C2, rfl, hc2, hA2, h2⟩, ⟨A3, c3, C3, rfl, hc3, hA3, h3⟩⟩
theorem ExC.of {m : Mem} {k a : Int} {s : ByteArray} {n : Int} {l : List Ex} {pats : List Pt} {alts : List Al} {decls : List De} {v1 v2 v3 v4 : Value} (h1 : ExsV m l v1) (h2 : PtsV m pats v2) (h3 : AlsV m alts v3) (h4 : DesV m decls v4) (hs : s.size ≤ maxLen) :
    ExC m (.mk k a s n l pats alts decls) [.int .i64 k, .int .i64 a, .string s, .int .i64 n, v1, v2, v3, v4] := by
  obtain ⟨A, c, C, rfl, hc, hA, h⟩ := h1
  obtain ⟨A2, c2, C2, rfl, hc2, hA2, h2'⟩ := h3
  obtain ⟨A3, c3, C3, rfl, hc3, hA3, h3'⟩ := h4
  exact .mk k a s n l pats alts decls A c C v2 A2 c2 C2 A3 c3 C3 hc hA h h2 hc2 hA2 h2' hc3 hA3 h3' hs
theorem ExC.size {m : Mem} {k a : Int} {s : ByteArray} {n : Int} {l : List Ex} {pats : List Pt} {alts : List Al} {decls : List De} {cs : List Value} (h : ExC m (.mk k a s n l pats alts decls) cs) : s.size ≤ maxLen := by
  cases h; assumption
theorem AlC.inv {m : Mem} {p : Pt} {b : Ex} {cs : List Value} (h : AlC m (.mk p b) cs) : ∃ cp cb, cs = cp ++ cb ∧ PtC m p cp ∧ ExC m b cb := by
  cases h with
  | mk _ _ cp cb hp hb => exact ⟨cp, cb, rfl, hp, hb⟩
theorem DeC.inv {m : Mem} {k a : Int} {s : ByteArray} {vars : List ByteArray} {cons : List Co} {ty : Ty} {pats : List Pt} {body : Ex} {cs : List Value} (h : DeC m (.mk k a s vars cons ty pats body) cs) :
    ∃ vv vc vp ct cb, cs = [.int .i64 k, .int .i64 a, .string s, vv, vc] ++ ct ++ [vp] ++ cb ∧ StrsV m vars vv ∧ DeOk s vars cons ∧ CosV m cons vc ∧ TyC m ty ct ∧ PtsV m pats vp ∧ ExC m body cb := by
  cases h with
  | mk _ _ _ _ _ _ _ _ vv vc vp ct cb hv hl hcs ht hp hb => exact ⟨vv, vc, vp, ct, cb, rfl, hv, hl, hcs, ht, hp, hb⟩
theorem ExC.len {m : Mem} {d : Ex} {cs : List Value} (h : ExC m d cs) : cs.length = 8 := by cases h; rfl
theorem AlC.len {m : Mem} {d : Al} {cs : List Value} (h : AlC m d cs) : cs.length = 13 := by
  cases h with
  | mk _ _ cp cb hp hb => rw [List.length_append, hp.len, hb.len]
theorem DeC.len {m : Mem} {d : De} {cs : List Value} (h : DeC m d cs) : cs.length = 18 := by
  cases h with
  | mk _ _ _ _ _ _ _ _ vv vc vp ct cb hv hl hcs ht hp hb => simp [ht.len, hb.len]
theorem exs_mono {m m' : Mem} (hm : m.le m') (n : Nat) : (∀ (d : Ex) cs, SizeOf.sizeOf d < n → ExC m d cs → ExC m' d cs) ∧ (∀ (d : Al) cs, SizeOf.sizeOf d < n → AlC m d cs → AlC m' d cs) ∧ (∀ (d : De) cs, SizeOf.sizeOf d < n → DeC m d cs → DeC m' d cs) := by
  induction n with
  | zero => exact ⟨fun d cs h => by omega, fun d cs h => by omega, fun d cs h => by omega⟩
  | succ n ih =>
    obtain ⟨i1, i2, i3⟩ := ih
    refine ⟨fun d cs h hd => ?_, fun d cs h hd => ?_, fun d cs h hd => ?_⟩
    · obtain ⟨k, a, s, m0, args, pats, alts, decls⟩ := d
      obtain ⟨v1, v2, v3, v4, rfl, ⟨A, c, C, rfl, hc, hA, h1⟩, h2, ⟨A3, c3, C3, rfl, hc3, hA3, h3⟩, ⟨A4, c4, C4, rfl, hc4, hA4, h4⟩⟩ := hd.inv
      simp at h
      refine .of ⟨A, c, C, rfl, hc, hA.mono hm (fun i hi => (h1 i hi).len), fun i hi => i1 _ _ ?_ (h1 i hi)⟩ (h2.mono hm) ⟨A3, c3, C3, rfl, hc3, hA3.mono hm (fun i hi => (h3 i hi).len), fun i hi => i2 _ _ ?_ (h3 i hi)⟩ ⟨A4, c4, C4, rfl, hc4, hA4.mono hm (fun i hi => (h4 i hi).len), fun i hi => i3 _ _ ?_ (h4 i hi)⟩ hd.size
      · have := List.sizeOf_lt_of_mem (List.getElem_mem hi); omega
      · have := List.sizeOf_lt_of_mem (List.getElem_mem hi); omega
      · have := List.sizeOf_lt_of_mem (List.getElem_mem hi); omega
    · obtain ⟨p, b⟩ := d
      obtain ⟨cp, cb, rfl, hp, hb⟩ := hd.inv
      simp at h
      exact .mk _ _ _ _ (hp.mono hm) (i1 _ _ (by omega) hb)
    · obtain ⟨k, a, s, vars, cons, ty, pats, body⟩ := d
      obtain ⟨vv, vc, vp, ct, cb, rfl, hv, hl, hcs, ht, hp, hb⟩ := hd.inv
      simp at h
      exact .mk _ _ _ _ _ _ _ _ _ _ _ _ _ (hv.mono hm) hl (hcs.mono hm) (ht.mono hm) (hp.mono hm) (i1 _ _ (by omega) hb)
theorem ExC.mono {m m' : Mem} (hm : m.le m') {d : Ex} {cs : List Value} (h : ExC m d cs) : ExC m' d cs := (exs_mono hm _).1 d cs (Nat.lt_succ_self _) h
theorem AlC.mono {m m' : Mem} (hm : m.le m') {d : Al} {cs : List Value} (h : AlC m d cs) : AlC m' d cs := (exs_mono hm _).2.1 d cs (Nat.lt_succ_self _) h
theorem DeC.mono {m m' : Mem} (hm : m.le m') {d : De} {cs : List Value} (h : DeC m d cs) : DeC m' d cs := (exs_mono hm _).2.2 d cs (Nat.lt_succ_self _) h
theorem ExsV.mono {m m' : Mem} (hm : m.le m') {l : List Ex} {v : Value} (h : ExsV m l v) : ExsV m' l v := by
  obtain ⟨A, c, C, hv, hc, hA, h⟩ := h
  exact ⟨A, c, C, hv, hc, hA.mono hm (fun i hi => (h i hi).len), fun i hi => (h i hi).mono hm⟩
theorem AlsV.mono {m m' : Mem} (hm : m.le m') {l : List Al} {v : Value} (h : AlsV m l v) : AlsV m' l v := by
  obtain ⟨A, c, C, hv, hc, hA, h⟩ := h
  exact ⟨A, c, C, hv, hc, hA.mono hm (fun i hi => (h i hi).len), fun i hi => (h i hi).mono hm⟩
theorem DesV.mono {m m' : Mem} (hm : m.le m') {l : List De} {v : Value} (h : DesV m l v) : DesV m' l v := by
  obtain ⟨A, c, C, hv, hc, hA, h⟩ := h
  exact ⟨A, c, C, hv, hc, hA.mono hm (fun i hi => (h i hi).len), fun i hi => (h i hi).mono hm⟩

/-- What lay there reads as it did. -/
theorem cell_lt {w : World} {a : Addr} {v : Value} (h : w.cell? a = some v) : a.block < w.heap.size := by
  unfold World.cell? at h
  split at h
  · rename_i c t r hb
    exact (Array.getElem?_eq_some_iff.1 hb).1
  · cases h
theorem mem_below {w w' : World} (hb : Below w.heap.size w w') : (mem w).le (mem w') := fun g o v h => by
  have hl := cell_lt h
  exact (hb.cell (p := ⟨g, o, none⟩) hl).trans h
theorem memX_le {w : World} {X : Nat → Prop} : (memX w X).le (mem w) := fun g o v h => by
  unfold memX at h
  split at h
  · exact h
  · cases h
theorem memX_le_X {w w' : World} {X Y : Nat → Prop} (h : ∀ g, g < w.heap.size → X g → Y g ∧ w'.heap[g]? = w.heap[g]?) : (memX w X).le (memX w' Y) := fun g o v hv => by
  unfold memX at hv ⊢
  split at hv
  · rename_i hx
    obtain ⟨hy, hh⟩ := h g (cell_lt hv) hx
    rw [if_pos hy, World.cell?_of_block (w := w) (a := ⟨g, o, none⟩) hh]; exact hv
  · cases hv
theorem mem_le_X {w w' : World} {Y : Nat → Prop} (h : ∀ g, g < w.heap.size → Y g ∧ w'.heap[g]? = w.heap[g]?) : (mem w).le (memX w' Y) := fun g o v hv => by
  obtain ⟨hy, hh⟩ := h g (cell_lt hv)
  unfold memX
  rw [if_pos hy, World.cell?_of_block (w := w) (a := ⟨g, o, none⟩) hh]; exact hv
theorem cell_of {w : World} {g o : Nat} {v : Value} {C : List Value} {j : Nat} (h : mem w g o = C[j]?) (hc : C[j]? = some v) : w.cell? ⟨g, o, none⟩ = some v := h.trans hc

/-- A block that is known whole. -/
def Blk (w : World) (g : Nat) (t : TypeId) (cs : Array Value) : Prop := w.heap[g]? = some (.cells cs t (0, 0))
theorem bk_new (w : World) (t : TypeId) (cs : Array Value) (n : Nat) (h : w.heap.size = n) : Blk (w.alloc (.cells cs t)) n t cs := by rw [← h]; exact heap_alloc_new w _
theorem bk_alloc {w : World} {g : Nat} {t : TypeId} {cs : Array Value} (h : Blk w g t cs) (o : Obj) : Blk (w.alloc o) g t cs := (Below.heap_alloc w o g (Array.getElem?_eq_some_iff.1 h).1).trans h
theorem bk_below {w w' : World} {g : Nat} {t : TypeId} {cs : Array Value} (h : Blk w g t cs) (hb : Below w.heap.size w w') : Blk w' g t cs := (hb.block g (Array.getElem?_eq_some_iff.1 h).1).trans h
theorem bk_drew {w : World} {g : Nat} {t : TypeId} {cs : Array Value} (h : Blk w g t cs) : Blk w.drew g t cs := h
/-- An answer; below it nothing has turned. -/
def RightV (r : Bool) (w : World) (e : Ending) (w' : World) : Prop := e = .returned (.bool r) ∧ Below w.heap.size w w'
def NumV (z : Int) (w : World) (e : Ending) (w' : World) : Prop := e = .returned (.int .i64 z) ∧ Below w.heap.size w w'
theorem ret_b {a b : Bool} (h : a = b) : Ending.returned (.bool a) = .returned (.bool b) := by rw [h]
theorem ret_i {a b : Int} (h : a = b) : Ending.returned (.int .i64 a) = .returned (.int .i64 b) := by rw [h]
theorem bl_al {a w : World} (h : Below a.heap.size a w) (o : Obj) : Below a.heap.size a (w.alloc o) := h.alloc h.size o
theorem bl_tr {a w w' : World} (h : Below a.heap.size a w) (h2 : Below w.heap.size w w') : Below a.heap.size a w' := h.trans (h2.mono h.size)
theorem bcell {W w1 : World} (hb : Below W.heap.size W w1) : (∀ b o, b < W.heap.size → w1.cell? ⟨b, o, none⟩ = W.cell? ⟨b, o, none⟩) ∧ (∀ b o, b < W.heap.size → w1.frozen? ⟨b, o, none⟩ = W.frozen? ⟨b, o, none⟩) :=
  ⟨fun b o h => hb.cell (p := ⟨b, o, none⟩) h, fun b o h => hb.frozen (p := ⟨b, o, none⟩) h⟩
theorem bl1 (w : World) (o : Obj) : Below w.heap.size w (w.alloc o) := bl_al (Below.refl _ _) o
theorem bl2 (w : World) (o o' : Obj) : Below w.heap.size w ((w.alloc o).alloc o') := bl_al (bl1 w o) o'
end Go.Proofs.Ytfeghobfkgimfaa
