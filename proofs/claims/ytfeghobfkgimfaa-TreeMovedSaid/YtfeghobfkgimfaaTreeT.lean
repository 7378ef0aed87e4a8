/- How many parts are left: the ring closed; is a list of trees small? -/
import Derived.Test.YtfeghobfkgimfaaTreeO
namespace Go.Proofs.Ytfeghobfkgimfaa
set_option linter.unusedSimpArgs false
set_option linter.unusedVariables false
open Go.RowKit Go.Shelf

theorem few_ring (n : Nat) :
    (∀ (l : List Ex) v left (w : World), SizeOf.sizeOf l < n → left ≤ 9223372036854775807 → ExsV (mem w) l v → Calls Try.prog 67 #[v, .int .i64 left] w (NumV (fewExs l left) w)) ∧
    (∀ (l : List Al) v left (w : World), SizeOf.sizeOf l < n → left ≤ 9223372036854775807 → AlsV (mem w) l v → Calls Try.prog 88 #[v, .int .i64 left] w (NumV (fewAls l left) w)) ∧
    (∀ (l : List De) v left (w : World), SizeOf.sizeOf l < n → left ≤ 9223372036854775807 → DesV (mem w) l v → Calls Try.prog 89 #[v, .int .i64 left] w (NumV (fewDes l left) w)) := by
  induction n with
  | zero => exact ⟨fun _ _ _ _ h => by omega, fun _ _ _ _ h => by omega, fun _ _ _ _ h => by omega⟩
  | succ n ih =>
    obtain ⟨iE, iA, iD⟩ := ih
    refine ⟨fun l v left w h hl hv => ?_, fun l v left w h hl hv => ?_, fun l v left w h hl hv => ?_⟩
    · exact fewExs_of l v left w hl hv (fun l' v' left' W h' => iE l' v' left' W (by omega)) (fun l' v' left' W h' => iA l' v' left' W (by omega)) (fun l' v' left' W h' => iD l' v' left' W (by omega))
    · exact fewAls_of l v left w hl hv (fun l' v' left' W h' => iE l' v' left' W (by omega))
    · exact fewDes_of l v left w hl hv (fun l' v' left' W h' => iE l' v' left' W (by omega))

theorem fewExs_any (l : List Ex) (v : Value) (left : Int) (w : World) (hl : left ≤ 9223372036854775807) (hv : ExsV (mem w) l v) :
    Calls Try.prog 67 #[v, .int .i64 left] w (NumV (fewExs l left) w) :=
  (few_ring _).1 l v left w (Nat.lt_succ_self _) hl hv
theorem fewDes_any (l : List De) (v : Value) (left : Int) (w : World) (hl : left ≤ 9223372036854775807) (hv : DesV (mem w) l v) :
    Calls Try.prog 89 #[v, .int .i64 left] w (NumV (fewDes l left) w) :=
  (few_ring _).2.2 l v left w (Nat.lt_succ_self _) hl hv

set_option maxRecDepth 100000 in
theorem light_any (l : List Ex) (v : Value) (w : World) (hv : ExsV (mem w) l v) :
    Calls Try.prog 33 #[v] w (RightV (decide (0 ≤ fewExs l 600)) w) := by
  have hc := fewExs_any l v 600 w (by decide) hv
  obtain ⟨y, hy⟩ : ∃ y, y = fewExs l 600 := ⟨_, rfl⟩
  rw [← hy] at hc ⊢
  have H := Lib.hid hc
  clear hc hy hv
  go_enter Try.func33, Try.ntmps33
  go_wp2_with fail
  refine H.out.mono ?_
  rintro e w2 ⟨rfl, hb⟩
  have HB := Lib.hid hb
  clear hb
  go_wp2_with fail
  go_ret
  exact ⟨rfl, HB.out⟩
end Go.Proofs.Ytfeghobfkgimfaa
